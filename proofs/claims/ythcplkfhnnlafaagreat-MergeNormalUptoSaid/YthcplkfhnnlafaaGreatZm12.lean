import Derived.Test.YthcplkfhnnlafaaGreatZm11
import Derived.OrdersHeld
import Derived.Test.YthcplkfhnnlafaaGreatZm00
namespace Go.Eng
set_option linter.all false
open Go Go.RowKit
section
variable {V:Type} [Mv V]
def NG(s:ByteArray):List (ByteArray×V)->Option V
 |[]=>none
 |p::r=>match decide (p.1=s)with|true=>some p.2|false=>NG s r
def Qe(s:ByteArray)(v:V):List (ByteArray×V)->List (ByteArray×V)
 |[]=>[(s,v)]
 |p::r=>match decide (p.1=s)with|true=>(s,v)::r|false=>p::Qe s v r
def Qd(s:ByteArray):List (ByteArray×V)->List (ByteArray×V)
 |[]=>[]
 |p::r=>match decide (p.1=s)with|true=>r|false=>p::Qd s r
theorem wz(s:ByteArray):∀xs:List (ByteArray×V),GA s (xs.map Ej)=(NG s xs).map Mv.e
 |[]=>rfl
 |p::r=>by
  simp only[YY,GA,Ej,Hw,NG];cases decide (p.1=s)with
  |true=>rfl
  |false=>exact wz s r
theorem xm(s:ByteArray)(v:V):∀xs:List (ByteArray×V),JB s (Mv.e v) (xs.map Ej)=(Qe s v xs).map Ej
 |[]=>rfl
 |p::r=>by
  simp only[YY,JB,Ej,Hw,Qe];cases decide (p.1=s)with
  |true=>rfl
  |false=>exact congrArg _ (xm s v r)
theorem xU(s:ByteArray):∀xs:List (ByteArray×V),Jn s (xs.map Ej)=(Qd s xs).map Ej
 |[]=>rfl
 |p::r=>by
  simp only[YY,Jn,Ej,Hw,Qd];cases decide (p.1=s)with
  |true=>rfl
  |false=>exact congrArg _ (xU s r)
def MX(s:ByteArray)(xs:List (ByteArray×V)):V:=(NG s xs).getD Mv.z
def MV(s:ByteArray)(xs:List (ByteArray×V)):Bool:=(NG s xs).isSome
theorem ZD7(s:ByteArray)(xs:List (ByteArray×V)):Sn (xs.map Ej) s (Mv.e (Mv.z (V:=V))) (Mv.e (MX s xs)) (MV s xs):=by unfold Sn MX MV;rw[wz];cases NG s xs<;>exact⟨rfl,rfl⟩
variable {os:Nat} {β:Type}
@[reducible] def Pk(xs:List (ByteArray×V))(s:ByteArray)(k:V->Bool->PT os β):PT os β:=
 ⟨.av (.d (.bool (MV s xs))) (.ds (Mv.e (MX s xs)) (k (MX s xs) (MV s xs)).a),λE=>Sn (xs.map Ej) s (Mv.e (Mv.z (V:=V))) (Mv.e (MX s xs)) (MV s xs)/\(k (MX s xs) (MV s xs)).q E,(k (MX s xs) (MV s xs)).m,λE=>∀v b,(k v b).n E,
 λE c y hm a=>⟨ZD7 s xs,(k _ _).ok E (c _ _) y hm a⟩⟩
@[reducible] def Pm(xs:List (ByteArray×V))(s:ByteArray)(v:V)(k:PT os β):PT os β:=
 ⟨.ents ((Qe s v xs).map Ej) k.a,λE=>ZUe s (Mv.e v) (xs.map Ej) ((Qe s v xs).map Ej)/\k.q E,k.m,k.n,λE b y hm a=>⟨xm s v xs,k.ok E b y hm a⟩⟩
@[reducible] def Pi(xs:List (ByteArray×V))(s:ByteArray)(k:PT os β):PT os β:=
 ⟨.ents ((Qd s xs).map Ej) k.a,λE=>ZS2 s (xs.map Ej) ((Qd s xs).map Ej)/\k.q E,k.m,k.n,λE b y hm a=>⟨xU s xs,k.ok E b y hm a⟩⟩
end
@[reducible] def Pn{os:Nat}{β:Type}(d q:Nat)(k:PT os β)(a:Nat.ble (q+1) os=true:=by kernel_rfl):PT os β:=
 ⟨.mv d q k.a,λE=>Gx []/\(q<os/\E.r.no (E.r.κ (0,q)))/\k.q E,k.m,k.n,λE c y hm b=>
  ⟨λx hx=>(by cases hx),⟨Ym a,by rw[E.g.no,E.g.κ];exact E.co.W q (Ym a)⟩,k.ok E c y hm b⟩⟩
structure KCN (P:Program) (f:FuncId) (xs:List AV) {γ:Type} (M:Option (List γ)) (e:γ->AV):Prop where
 k:∀l H ys,M=some ys->Zdm P f l xs H (λz H'=>(∃y∈ys,z=e y)/\H'=H)
 x:∀r,Aq r xs=xs
 e:∀r y,ren r (e y)=e y
theorem KCN.one{P:Program}{f:FuncId}{xs:List AV}{γ:Type}{M:Option (List γ)}{e:γ->AV}(K:KCN P f xs M e)(N:Option γ)(h:∀y,N=some y->∃ys,M=some ys/\∀z∈ys,z=y):KC P f xs N e:=
 ⟨λl H y hy=>by obtain⟨ys,a,b⟩:=h y hy;exact(K.k l H ys a).mono λz j ⟨⟨i,c,d⟩,g⟩=>⟨by rw[d,b i c],g⟩,K.x,K.e⟩
structure KON (P:Program) (f:FuncId) (os:Nat) (ys:List AV) (bi:List Blk) (Θ:Cl) {γ:Type} (M:Option (List γ)) (e:γ->AV) (bs:γ->List Blk):Prop where
 k:∀l H (ks:List Ad) (gs:List Nat) (θ:Nat->AV),ks.length=os->Kf l ks->ks.Nodup->Lx H (CI l ks gs θ H) (DY 0 bi) 0 ks->Θ (λk=>k∈ks) l H θ->∀zs,M=some zs->
  Zdm P f l (Aq (CI l ks gs θ H) ys) H (λz H'=>∃y∈zs,z=ren (CI l ks gs θ H) (e y)/\H'=Ed H ks (Dk (CI l ks gs θ H) 0 (bs y)))
end Go.Eng
namespace Go.Eng
set_option linter.all false
open Go Go.RowKit
inductive Pl where
 |nil
 |fst (i:Nat) (r:Pl)
 |two (i j:Nat) (a b:Pl)
 |opt (hs:List Nat) (i:Nat) (r s:Pl)
def Pl.len:Pl->Nat
 |.nil=>0
 |.fst _ r=>r.len+1
 |.two _ _ a _=>a.len+1
 |.opt _ _ r _=>r.len+1
def T6:Pl->Bool
 |.opt _ _ _ _=>true
 |_=>false
def Ve:Pl->List Nat
 |.opt _ i _ s=>i::Ve s
 |_=>[]
def NQ:Pl->Bool
 |.opt hs i r s=>hs.all λk=>(Ve (.opt hs i r s)).any (Nat.beq k)
 |_=>true
def CN(P:Program)(ops:Array Oper)(Q:Exit->Act->World->Prop)(o:Oper)(a:Act)(w:World)(N:Act->World->Prop):Prop:=if Region.wanted o (yielded ops a.tmps)=true then o.wp P a w N Q else N (a.put o.dst Go.undef) w
def ER(P:Program)(L:List Oper)(Q:Exit->Act->World->Prop)(S:World->Prop):Pl->Act->World->Prop
 |.nil,a,w=>Q .normal a w
 |.fst i r,a,w=>match Bp L i with
  |some o=>CN P L.toArray Q o a w (λb w'=>S w'/\ER P L Q S r b w')
  |none=>False
 |.two i j x y,a,w=>match Bp L i,Bp L j with
  |some o,some c=>CN P L.toArray Q o a w (λb w'=>S w'/\ER P L Q S x b w')/\CN P L.toArray Q c a w (λb w'=>S w'/\ER P L Q S y b w')
  |_,_=>False
 |.opt _ i x y,a,w=>match Bp L i with
  |some o=>CN P L.toArray Q o a w (λb w'=>S w'/\ER P L Q S x b w')/\(T6 y=true->ER P L Q S y a w)
  |none=>False
def Sx(a hs:List Nat):Nat->List Oper->Bool
 |_,[]=>true
 |k,ok::r=>(a.any (Nat.beq k)||hs.any (Nat.beq k)||ok.after.toList.any (λe=>Region.binds .any e&&!a.any (Nat.beq e.on)))&&Sx a hs (k+1) r
theorem gV{a hs:List Nat}:∀{r:List Oper} {c k:Nat} {ok:Oper},Sx a hs c r=true->r[k]?=some ok->
  (c+k)∈a\/c+k∈hs\/∃e∈ok.after,Region.binds .any e=true/\e.on∉a
 |[],c,k,ok,_,h=>by simp at h
 |q::r,c,k,ok,f,h=>by
  unfold Sx at f;rw[Yc]at f;cases k with
  |zero=>
   simp only[G7,Yo]at h;subst h;have b:=f.1;simp only[YG]at b;rcases b with(b|b)|b
   ·exact .inl (Hi.1 b)
   ·exact .inr (.inl (Hi.1 b))
   ·obtain⟨e,he,d⟩:=YP.1 b;rw[Yc]at d;exact .inr (.inr ⟨e,by simpa using he,d.1,λhm=>by have:=Hi.2 hm;rw[this]at d;cases d.2⟩)
  |succ k=>
   have:=gV (k:=k) f.2 (by simpa using h);grind
def UV(a:List Nat)(i j:Nat):Nat->List Oper->Bool
 |_,[]=>true
 |k,ok::r=>(a.any (Nat.beq k)||Nat.beq k i||Nat.beq k j||ok.after.toList.any (λe=>Region.binds .any e&&!a.any (Nat.beq e.on)))&&UV a i j (k+1) r
theorem yY{a:List Nat}{i j:Nat}:∀{r:List Oper} {c k:Nat} {ok:Oper},UV a i j c r=true->r[k]?=some ok->
  (c+k)∈a\/c+k=i\/c+k=j\/∃e∈ok.after,Region.binds .any e=true/\e.on∉a
 |[],c,k,ok,_,h=>by simp at h
 |q::r,c,k,ok,f,h=>by
  unfold UV at f;rw[Yc]at f;cases k with
  |zero=>
   simp only[G7,Yo]at h;subst h;have b:=f.1;simp only[YG]at b;rcases b with((b|b)|b)|b
   ·exact .inl (Hi.1 b)
   ·exact .inr (.inl (Yd b))
   ·exact .inr (.inr (.inl (Yd b)))
   ·obtain⟨e,he,d⟩:=YP.1 b;rw[Yc]at d;exact .inr (.inr (.inr ⟨e,by simpa using he,d.1,λhm=>by have:=Hi.2 hm;rw[this]at d;cases d.2⟩))
  |succ k=>
   have:=yY (k:=k) f.2 (by simpa using h);grind
def SH(env:List (Nat×Nat))(o:Oper):Bool:=match o.op with
 |.load _ x=>(match MD x with|some y=>(K9 y env).isSome|none=>false)
 |_=>false
def F8(o:Oper):Bool:=match o.guard with
 |none=>true
 |some _=>false
def Pg(P:Program)(o:Oper):Bool:=F8 o||(Ld P o).isNone
def Ht(P:Program)(L:List Oper):List (Nat×Nat)->List Nat->Pl->Bool
 |_,a,.nil=>(List.range L.length).all λj=>a.any (Nat.beq j)
 |env,a,.fst i c=>(match Bp L i with
  |some b=>!(a.any (Nat.beq i))&&b.after.toList.all (λe=>!Region.binds .any e||a.any (Nat.beq e.on))&&(match F8 b&&(D0 P b||SH env b)with|true=>SX.chkV P L a i b 0 L|false=>(match L.all F8 with|true=>Qb P L a i b 0 L|false=>Sx a [i] 0 L))&&Pg P b&&Ht P L (DG P env b) (i::a) c&&NQ c
  |none=>false)
 |env,a,.two i j x y=>(match Bp L i,Bp L j with
  |some b,some d=>b.after.toList.all (λe=>!Region.binds .any e||a.any (Nat.beq e.on))&&!(a.any (Nat.beq i))&&!(a.any (Nat.beq j))&&UV a i j 0 L&&(Pg P b&&Pg P d)&&Nat.beq x.len y.len&&Ht P L (DG P env b) (i::a) x&&Ht P L (DG P env d) (j::a) y&&NQ x&&NQ y
  |_,_=>false)
 |env,a,.opt hs i x y=>(match Bp L i with
  |some b=>b.after.toList.all (λe=>!Region.binds .any e||a.any (Nat.beq e.on))&&!(a.any (Nat.beq i))&&Sx a hs 0 L&&Pg P b&&Ht P L (DG P env b) (i::a) x&&NQ x&&(!T6 y||(Nat.beq y.len (x.len+1)&&Ht P L env a y))
  |none=>false)
def LV(o:Oper)(a b:Act):Prop:=∃u,∀x,b.eval x=(a.put o.dst u).eval x
theorem l5{P:Program}{o:Oper}{a:Act}{w:World}{N:Act->World->Prop}{Q:Exit->Act->World->Prop}(h:o.wp P a w N Q):o.wp P a w (λg w'=>N g w'/\LV o a g/\∀v b,(execOp a.eval o).run P w=.ok (.value v) b->g=a.put o.dst v) Q:=by
 unfold Oper.wp at*;cases j:(execOp a.eval o).run P w with
 |ok n w'=>
  rw[j]at h;cases n<;>simp only[Oper.upon]at h⊢
  case value u=>exact⟨h,⟨u,λ_=>rfl⟩,λv b e=>by cases e;rfl⟩
  case skip=>exact⟨h,⟨_,λ_=>rfl⟩,λv b e=>by cases e⟩
  case defer d=>exact⟨h,⟨Go.undef,λx=>by cases o.dst<;>rfl⟩,λv b e=>by cases e⟩
  case enter f args=>
   refine Calls.mono h λe i he=>?_;cases e with
   |returned u=>exact⟨he,⟨u,λ_=>rfl⟩,λv b e=>by cases e⟩
   |panicked c=>exact he
   |outgrown=>exact he
  case row row args=>exact Rows.mono h λu i he=>⟨he,⟨u,λ_=>rfl⟩,λv b e=>by cases e⟩
 |halt x w'=>
  rw[j]at h;cases x<;>simp only[Oper.upon]at h⊢;grind
theorem CN.mono{P:Program}{ops:Array Oper}{Q:Exit->Act->World->Prop}{o:Oper}{a:Act}{w:World}{N b:Act->World->Prop}(h:∀d w',N d w'->b d w')(s:CN P ops Q o a w N):CN P ops Q o a w b:=by
 unfold CN at*;split
 ·rename_i c;rw[Yi c]at s;exact Oper.wp_mono h s
 ·rename_i c;rw[Yh c]at s;exact h _ _ s
theorem CN.un{P:Program}{ops:Array Oper}{Q:Exit->Act->World->Prop}{o:Oper}{a:Act}{w:World}{N:Act->World->Prop}(g:o.guard=none)(s:CN P ops Q o a w N):o.wp P a w N Q:=by unfold CN at s;rw[Yi (by simp[Region.wanted,g])]at s;exact s
theorem CN.put{P:Program}{ops:Array Oper}{Q:Exit->Act->World->Prop}{o:Oper}{a:Act}{w:World}{N:Act->World->Prop}(s:CN P ops Q o a w N):CN P ops Q o a w (λb w'=>N b w'/\LV o a b/\(o.guard=none->∀v d,(execOp a.eval o).run P w=.ok (.value v) d->b=a.put o.dst v)):=by
 unfold CN at*;split
 ·rename_i c;rw[Yi c]at s;exact Oper.wp_mono (λb w' h=>⟨h.1,h.2.1,λ_=>h.2.2⟩) (l5 s)
 ·rename_i c;rw[Yh c]at s;exact⟨s,⟨_,λ_=>rfl⟩,λg=>absurd (by simp[Region.wanted,g]) c⟩
theorem CN.op{P:Program}{ops:Array Oper}{Q:Exit->Act->World->Prop}{o:Oper}{a:Act}{w:World}{N:Act->World->Prop}{k:Nat}(b:ops[k]?=some o)(s:CN P ops Q o a w N):wpOp P ops Q k N a w:=by
 unfold wpOp;simp only[b];unfold CN at s;split
 ·rename_i c;rw[Yi c]at s;exact .inl s
 ·rename_i c;rw[Yh c]at s;exact s
theorem Wl{o:Oper}(h:F8 o=true):o.guard=none:=by
 unfold F8 at h;cases a:o.guard with
 |none=>rfl
 |some _=>rw[a]at h;cases h
def JF(β:Nat->Nat)(env:List (Nat×Nat))(a:Act):Prop:=∀p∈env,∀b,pb (a.eval (.tmp p.1))=some b->b=β p.2
theorem eval_put(a:Act)(d j:Nat)(u:Value)(h:j≠d):(a.put (some d) u).eval (.tmp j)=a.eval (.tmp j):=by simp only[Act.put,Act.eval,YD,PK];grind
theorem ZlQ(a:Act)(d:Nat)(u:Value):(a.put (some d) u).eval (.tmp d)=u\/(a.put (some d) u).eval (.tmp d)=Go.undef:=by simp only[Act.put,Act.eval,YD,PK];grind
theorem JF.put{P:Program}{β:Nat->Nat}{env:List (Nat×Nat)}{a i:Act}{o:Oper}{w:World}(j:JF β env a)(h:LV o a i)(x:∀z,Ld P o=some z->∃v n,(execOp a.eval o).run P w=.ok (.value v) n/\i=a.put o.dst v):JF β (DG P env o) i:=by
 intro p c b f;unfold DG at c;cases g:o.dst with
 |none=>
  rw[g]at c;obtain⟨u,l⟩:=h;rw[l,g]at f;exact j p c b f
 |some d=>
  rw[g]at c;rcases DT.1 c with c|c
  ·cases hs:Ld P o with
   |none=>rw[hs]at c;cases c
   |some z=>
    rw[hs]at c;dsimp only at c;cases he:K9 z env with
    |none=>rw[he]at c;cases c
    |some r=>
     rw[he]at c;rcases Y5.1 c with rfl;obtain⟨v,n,q,s⟩:=x z hs;rw[s,g]at f;have Av:pb v=some b:=by
      rcases ZlQ a d v with e|e
      ·grind
      ·rw[e]at f;cases f
     exact j _ (Mg he) b (oe hs q Av)
  ·obtain⟨t,m⟩:=Y2.1 c;obtain⟨u,l⟩:=h;have k:p.1≠d:=λe=>by rw[e]at m;simp at m
   rw[l,g,eval_put a d p.1 u k]at f;exact j p t b f
section
variable {P:Program} {Q:Exit->Act->World->Prop} {L:List Oper} {S:World->Prop}
theorem ZoI{ops:Array Oper}{i:Nat}{m:Oper}{v:Value}(hi:ops[i]?=some m)(G:DQ P m=true)(O:∀(j:Nat) (o:Oper),ops[j]?=some o->o.guard=none)(q:∀(j:Nat) (o:Oper) cs b,ops[j]?=some o->o.op≠.select cs b)
  (hQ:∀c a w,¬Q (.panic c) a w) (T:¬LetsOut Q):∀(fuel:Nat) (d:Array Bool) (a:Act) (w:World),DC ops d->
   (∀j l,ops[j]?=some l->j≠i->d.getD j true=false->¬Waits ops j i->m.apart ops l=true/\(DQ P l||Lm l)=true)->
   i∈Region.ready .any ops d->(execOp a.eval m).run P w=.ok (.value v) w->S w->
   wpAnyH P .any ops Q S fuel (d.setIfInBounds i true) (a.put m.dst v) w->wpAnyH P .any ops Q S (fuel+1) d a w:=by
 have R:∀{a:Act} {w:World} {K:Act->World->Prop},(execOp a.eval m).run P w=.ok (.value v) w->K (a.put m.dst v) w->wpOp P ops Q i K a w:=λhy h=>by unfold wpOp;simp only[hi];rw[Yi (by simp[Region.wanted,O i m hi])];left;unfold Oper.wp;rw[hy];exact h
 intro fuel
 induction fuel with
 |zero=>
  intro d a w _ _ r hy U H;refine⟨λh=>(by rw[h]at r;cases r),λj s=>?_⟩;by_cases g:j=i
  ·grind
  ·have:=ready_mono s g;rw[H.1]at this;cases this
 |succ fuel W=>
  intro d a w L M r hy U H;refine⟨λh=>(by rw[h]at r;cases r),λj s=>?_⟩;by_cases g:j=i
  ·grind
  ·have e:=H.2 j (ready_mono s g);obtain⟨z,l,p,N⟩:=mem_ready.1 s;have t:=(mem_ready.1 r).1;obtain⟨B,F⟩:=M j l p g z (L.nowait s t);obtain⟨X,Y,Z⟩:=Oper.apart_spec B;obtain⟨q1,q2⟩:=zk (P:=P) (ρ:=a.eval) F;unfold wpOp at e⊢;simp only[p]at e⊢;have J:∀y,Region.wanted l y=true:=λy=>by simp[Region.wanted,O j l p]
   rw[Yi (J _)]at e⊢;rcases e with e|⟨_,e⟩
   case inr=>exact absurd e T
   left;unfold Oper.wp at e⊢;rw[execOp_put l (λcs b=>q j l cs b p) a m.dst v X]at e;cases f:(execOp a.eval l).run P w with
   |halt x w'=>
    rw[f]at e;cases x<;>simp only[Oper.upon]at e;grind
   |ok n w'=>
    have I:=q1 _ _ _ f;obtain⟨u,rfl⟩:=q2 _ _ _ f;rw[f]at e;simp only[Oper.upon]at e⊢;refine⟨e.1,W (d.setIfInBounds j true) (a.put l.dst u) w' (L.ready s) (λk ok V D A E=>?_) (ready_mono r (Ne.symm g)) ?_ e.1 ?_⟩
    ·refine M k ok V D ?_ E;by_cases C:j=k
     ·grind
     ·rw[getD_set_ne true C]at A;exact A
    ·rw[execOp_put m (λcs b=>q i m cs b hi) a l.dst u Z];exact ZxX G _ _ _ _ hy I
    ·rw[lK _ _ g,<-Act.put_comm a v u Y];exact e.2
theorem Zvu{β:Nat->Nat}{F:Nat->Prop}{w0:World}(hS0:∀b w,F b->S w->w.heap[b]?=w0.heap[b]?)(hC:∀b,F b->Fx w0 b)(hsel:∀(j:Nat) (o:Oper) cs b,L.toArray[j]?=some o->o.op≠.select cs b)(hQ:∀c a w,¬Q (.panic c) a w)(hO:¬LetsOut Q):
  ∀(π:Pl) (env:List (Nat×Nat)) (d:List Nat) (l:Array Bool) (a:Act) (w:World),l.size=L.length->(∀j,j<L.length->(l.getD j true=true↔j∈d))->(∀x∈d,x<L.length)->DC L.toArray l->Ht P L env d π=true->(∀p∈env,F (β p.2))->JF β env a->S w->
   ER P L Q S π a w->(NQ π=true->wpAnyH P .any L.toArray Q S π.len l a w)/\
    ∀k∈Ve π,wpOp P L.toArray Q k (λm w'=>S w'/\wpAnyH P .any L.toArray Q S (π.len-1) (l.setIfInBounds k true) m w') a w:=by
 have un:∀(l:Array Bool) (d:List Nat) (i:Nat),(∀j,j<L.length->(l.getD j true=true↔j∈d))->i<L.length->d.any (Nat.beq i)=false->l.getD i true=false:=λl d i hl Z c1=>by
  cases hb:l.getD i true with
  |false=>rfl
  |true=>have:=Hi.2 ((hl i Z).1 hb);rw[c1]at this;cases this
 have next:∀(l:Array Bool) (d:List Nat) (i:Nat),l.size=L.length->(∀j,j<L.length->(l.getD j true=true↔j∈d))->∀j,j<L.length->((l.setIfInBounds i true).getD j true=true↔j∈i::d):=λl d i hs hl j hj=>by
  by_cases E:i=j
  ·subst E;simp only[Yx,true_or,iff_true];simp[hs,hj]
  ·rw[getD_set_ne true E,hl j hj,Yx];exact⟨.inr,λh=>h.resolve_left (Ne.symm E)⟩
 have rdy:∀(l:Array Bool) (d:List Nat) (i:Nat) (g:Oper),l.size=L.length->(∀j,j<L.length->(l.getD j true=true↔j∈d))->(∀x∈d,x<L.length)->L[i]?=some g->d.any (Nat.beq i)=false->
   g.after.toList.all (λe=>!Region.binds .any e||d.any (Nat.beq e.on))=true->i∈Region.ready .any L.toArray l:=λl d i g hs hl D hi c1 c2=>
  mem_ready.2 ⟨un l d i hl (Yb.1 hi).1 c1,g,by simpa using hi,λe he hb=>by have W:=Yv.1 c2 e (by simpa using he);rw[hb]at W;simp only[YQ,G4]at W;have hm:=Hi.1 W;have Y:=D _ hm;have B:=(hl _ Y).2 hm;simp only[YD]at B⊢;rw[Yy ae]at B⊢;simpa using B⟩
 have envF:∀(env:List (Nat×Nat)) (o:Oper),(∀p∈env,F (β p.2))->∀p∈DG P env o,F (β p.2):=λenv o hF p hp=>by
  unfold DG at hp;split at hp
  ·exact hF p hp
  ·rcases DT.1 hp with hp|hp
   ·split at hp
    ·split at hp
     ·rename_i r T;have e:=Y5.1 hp;rw[e];have:=hF _ (Mg T);exact this
     ·cases hp
    ·cases hp
   ·exact hF p (Y2.1 hp).1
 have q:∀(env:List (Nat×Nat)) (o:Oper) (a m:Act) (w:World) (N:Act->World->Prop),CN P L.toArray Q o a w N->Pg P o=true->JF β env a->LV o a m->(o.guard=none->∀v w1,(execOp a.eval o).run P w=.ok (.value v) w1->m=a.put o.dst v)->JF β (DG P env o) m:=λenv o a m w N hw hgk O W Y=>by
  refine O.put (P:=P) (w:=w) W λz hz=>?_;have G:o.guard=none:=by unfold Pg at hgk;rw[hz]at hgk;exact Wl (by simpa using hgk)
  have hw:=hw.un G;have Y:=Y G;have hv:D0 P o=true:=by unfold Ld at hz;cases hv:D0 P o with|true=>rfl|false=>rw[hv]at hz;cases hz
  obtain⟨v1,v2⟩:=WC (P:=P) (ρ:=a.eval) hv;unfold Oper.wp at hw;cases f:(execOp a.eval o).run P w with
  |halt x w'=>
   rw[f]at hw;cases x<;>simp only[Oper.upon]at hw;exact absurd hw (hQ _ _ _)
  |ok n w'=>
   obtain⟨u,rfl⟩:=v2 _ _ _ f;exact⟨u,w',rfl,Y u w' f⟩
 intro π
 induction π with
 |nil=>
  intro env d l a w hs hl D hD H hF O hS h;unfold Ht at H;rw[Yv]at H;refine⟨λ_=>⟨?_,h⟩,λk M=>by cases M⟩;cases T:Region.ready .any L.toArray l with
  |nil=>rfl
  |cons x xs=>
   have hx:x∈Region.ready .any L.toArray l:=(by rw[T];exact YH ..);obtain⟨h0,o,ho,_⟩:=mem_ready.1 hx;have D:x<L.length:=(by have:=(G5.1 ho).1;simpa using this);have:=(hl x D).2 (Hi.1 (H x (T1.2 D)));rw[h0]at this;cases this
 |two i j x y ihx ihy=>
  intro env d l a w hs hl D hD H hF O hS h;unfold Ht at H;unfold ER at h;cases hi:L[i]? with
  |none=>rw[CC,hi]at H;simp at H
  |some g=>
   cases hj:L[j]? with
   |none=>rw[CC,CC,hi,hj]at H;simp at H
   |some V=>
    rw[CC,CC,hi,hj]at H h;dsimp only at h;simp only[Yc,YM]at H;obtain⟨⟨⟨⟨⟨⟨⟨⟨⟨c0,c1⟩,c2⟩,c5⟩,X,cgj⟩,c6⟩,c7⟩,c8⟩,cx⟩,cy⟩:=H;refine⟨λ_=>?_,λk M=>by cases M⟩;have Z:i<L.length:=(Yb.1 hi).1;have hjL:j<L.length:=(Yb.1 hj).1;obtain⟨W,Y⟩:=h;have lt':∀k,k<L.length->∀z∈k::d,z<L.length:=λk M z hz=>by
     rcases Yx.1 hz with rfl|hz
     ·exact M
     ·exact D z hz
    show wpAnyH P .any L.toArray Q S (x.len+1) l a w;have hready:∀k∈Region.ready .any L.toArray l,k=i\/k=j:=λk M=>by
     obtain⟨k0,ok,hok,A⟩:=mem_ready.1 M;have hkl:k<L.length:=(by have:=(G5.1 hok).1;simpa using this);have:=yY (k:=k) c5 (by simpa using hok);rw[YU]at this;rcases this with B|B|B|⟨e,he,hb,K⟩
     ·have:=(hl k hkl).2 B;rw[k0]at this;cases this
     ·exact .inl B
     ·exact .inr B
     ·have U:=A e he hb;have h5:e.on<L.length:=by
       rcases YN e.on l.size with h|h
       ·omega
       ·simp[Gh h,YD]at U
      refine absurd ((hl e.on h5).1 ?_) K;simp only[YD]at U⊢;rw[Yy ae]at U⊢;simpa using U
    have T:=rdy l d i g hs hl D hi c1 c0;refine⟨λh0=>(by rw[h0]at T;cases T),λk M=>?_⟩;rcases hready k M with rfl|rfl
    ·have hkA:L.toArray[k]?=some g:=(by simpa using hi);exact(W.put.mono λm w' s=>⟨s.1.1,(ihx (DG P env g) (k::d) _ m w' (by simp[hs]) (next l d k hs hl) (lt' k Z) (hD.ready M) c7 (envF env g hF) (q env g a m w _ W X O s.2.1 s.2.2) s.1.1 s.1.2).1 cx⟩).op hkA
    ·have hkA:L.toArray[k]?=some V:=(by simpa using hj);rw[Yd c6];exact(Y.put.mono λm w' s=>⟨s.1.1,(ihy (DG P env V) (k::d) _ m w' (by simp[hs]) (next l d k hs hl) (lt' k hjL) (hD.ready M) c8 (envF env V hF) (q env V a m w _ Y cgj O s.2.1 s.2.2) s.1.1 s.1.2).1 cy⟩).op hkA
 |opt hh0 i x y ihx ihy=>
  intro env d l a w hs hl D hD H hF O hS h;unfold Ht at H;unfold ER at h;cases hi:L[i]? with
  |none=>rw[CC,hi]at H;simp at H
  |some g=>
   rw[CC,hi]at H h;dsimp only at h;simp only[Yc,YM,YG]at H;obtain⟨⟨⟨⟨⟨⟨c0,c1⟩,c5⟩,X⟩,c7⟩,cx⟩,cy⟩:=H;have Z:i<L.length:=(Yb.1 hi).1;obtain⟨W,Y⟩:=h;have lt':∀k,k<L.length->∀z∈k::d,z<L.length:=λk M z hz=>by
    rcases Yx.1 hz with rfl|hz
    ·exact M
    ·exact D z hz
   have T:=rdy l d i g hs hl D hi c1 c0;have hB:∀k∈Ve (.opt hh0 i x y),wpOp P L.toArray Q k (λm w'=>S w'/\wpAnyH P .any L.toArray Q S x.len (l.setIfInBounds k true) m w') a w:=λk M=>by
    rcases Yx.1 M with rfl|M
    ·have hkA:L.toArray[k]?=some g:=(by simpa using hi);exact(W.put.mono λm w' s=>⟨s.1.1,(ihx (DG P env g) (k::d) _ m w' (by simp[hs]) (next l d k hs hl) (lt' k Z) (hD.ready T) c7 (envF env g hF) (q env g a m w _ W X O s.2.1 s.2.2) s.1.1 s.1.2).1 cx⟩).op hkA
    ·have hy:T6 y=true:=(by cases y with|opt _ _ _ _=>rfl|_=>cases M);rcases cy with cy|⟨cy,cz⟩
     ·rw[hy]at cy;cases cy
     ·have:=(ihy env d l a w hs hl D hD cz hF O hS (Y hy)).2 k M;rw[Yd cy,Nat.add_sub_cancel]at this;exact this
   refine⟨λhcov=>?_,hB⟩;show wpAnyH P .any L.toArray Q S (x.len+1) l a w;refine⟨λh0=>(by rw[h0]at T;cases T),λk M=>hB k ?_⟩;obtain⟨k0,ok,hok,A⟩:=mem_ready.1 M;have hkl:k<L.length:=(by have:=(G5.1 hok).1;simpa using this);have:=gV (k:=k) c5 (by simpa using hok);rw[YU]at this;rcases this with B|B|⟨e,he,hb,K⟩
   ·have:=(hl k hkl).2 B;rw[k0]at this;cases this
   ·exact Hi.1 (Yv.1 hcov k B)
   ·have U:=A e he hb;have h5:e.on<L.length:=by
     rcases YN e.on l.size with h|h
     ·omega
     ·simp[Gh h,YD]at U
    refine absurd ((hl e.on h5).1 ?_) K;simp only[YD]at U⊢;rw[Yy ae]at U⊢;simpa using U
 |fst i rest ih=>
  intro env d l a w hs hl D hD H hF O hS h;unfold Ht at H;unfold ER at h;cases hi:L[i]? with
  |none=>rw[CC,hi]at H;simp at H
  |some g=>
   rw[CC,hi]at H h;dsimp only at h;simp only[Yc,YM]at H;obtain⟨⟨⟨⟨⟨c1,c2⟩,c3⟩,X⟩,c4⟩,c9⟩:=H;refine⟨λ_=>?_,λk M=>by cases M⟩;have Z:i<L.length:=(Yb.1 hi).1;have hiA:L.toArray[i]?=some g:=(by simpa using hi);have hun:=un l d i hl Z c1;have T:=rdy l d i g hs hl D hi c1 c2;have hlt':∀x∈i::d,x<L.length:=λx hx=>by
    rcases Yx.1 hx with rfl|hx
    ·exact Z
    ·exact D x hx
   have ih:∀m w',S w'->JF β (DG P env g) m->ER P L Q S rest m w'->wpAnyH P .any L.toArray Q S rest.len (l.setIfInBounds i true) m w':=λm w' hS' hJ' h=>
    (ih (DG P env g) (i::d) _ m w' (by simp[hs]) (next l d i hs hl) hlt' (hD.ready T) c4 (envF env g hF) hJ' hS' h).1 c9
   have hli:∀j,j<L.length->l.getD j true=false->j∉d:=λj hj hun hm=>by have:=(hl j hj).2 hm;rw[hun]at this;cases this
   have free:SX.chkV P L d i g 0 L=true->∀j V,L.toArray[j]?=some V->j≠i->l.getD j true=false->(∀e∈V.after,Region.binds .any e=true->e.on≠i)->g.apart L.toArray V=true:=λc3 j V R E I K=>by
    have hjl:j<L.length:=(by have:=(G5.1 R).1;simpa using this);have:=yo (k:=j) c3 (by simpa using R);rw[YU]at this;rcases this with B|B|⟨e,he,hb,he2⟩|B
    ·exact absurd B (hli j hjl I)
    ·exact absurd B E
    ·exact absurd he2 (K e he hb)
    ·exact B
   show wpAnyH P .any L.toArray Q S (rest.len+1) l a w;by_cases hv:(F8 g&&D0 P g)=true
   ·rw[Yc]at hv;obtain⟨J,hv⟩:=hv;have G:=Wl J;rw[J,hv]at c3;simp only[HN,Iz]at c3;have h:=h.un G;have q:∀(env:List (Nat×Nat)) (o:Oper) (a m:Act) (w:World) (N:Act->World->Prop),o=g->o.wp P a w N Q->JF β env a->LV o a m->(∀v w1,(execOp a.eval o).run P w=.ok (.value v) w1->m=a.put o.dst v)->JF β (DG P env o) m:=λenv o a m w N he hw O W Y=>by subst he;exact q env o a m w N (by unfold CN;rw[Yi (by simp[Region.wanted,G])];exact hw) X O W λ_=>Y
    obtain⟨v1,v2⟩:=WC (P:=P) (ρ:=a.eval) hv;have h0:=h;unfold Oper.wp at h;cases f:(execOp a.eval g).run P w with
    |halt x w'=>
     rw[f]at h;cases x<;>simp only[Oper.upon]at h;exact absurd h (hQ _ _ _)
    |ok n w'=>
     obtain⟨rfl,v3⟩:=v1 _ _ _ f;obtain⟨u,rfl⟩:=v2 _ _ _ f;rw[f]at h;simp only[Oper.upon]at h;exact wpAnyH_first hiA hsel (λc a w hq=>absurd hq (hQ _ _ _)) rest.len l a w' (free c3) T (.inl ⟨by simp[Region.wanted,G],λw2 _=>v3 w2⟩) hS (ih _ _ h.1 (q env g a _ w' _ rfl h0 O ⟨u,λ_=>rfl⟩ λv w1 e=>by rw[f]at e;cases e;rfl) h.2)
   ·by_cases s:(F8 g&&SH env g)=true
    ·rw[Yc]at s;obtain⟨J,s⟩:=s;have G:=Wl J;rw[J,s]at c3;simp only[PN,Iz]at c3;rw[J,Y9]at hv;have hv':D0 P g=false:=(by cases hq:D0 P g with|false=>rfl|true=>exact absurd hq hv);have h:=h.un G;have q:∀(env:List (Nat×Nat)) (o:Oper) (a m:Act) (w:World) (N:Act->World->Prop),o=g->o.wp P a w N Q->JF β env a->LV o a m->(∀v w1,(execOp a.eval o).run P w=.ok (.value v) w1->m=a.put o.dst v)->JF β (DG P env o) m:=λenv o a m w N he hw O W Y=>by subst he;exact q env o a m w N (by unfold CN;rw[Yi (by simp[Region.wanted,G])];exact hw) X O W λ_=>Y
     obtain⟨t,x,y,r,ho,hy,he⟩:∃t x y r,g.op=.load t x/\MD x=some y/\K9 y env=some r:=by
      unfold SH at s;split at s
      ·rename_i t x ho;split at s
       ·rename_i y hy;obtain⟨r,T⟩:=E1.1 s;exact⟨t,x,y,r,ho,hy,T⟩
       ·cases s
      ·cases s
     have hrd:DQ P g=true:=(by unfold DQ;rw[hv',ho];rfl);obtain⟨v1,v2⟩:=Rr (P:=P) (ρ:=a.eval) hrd;have h0:=h;unfold Oper.wp at h;cases f:(execOp a.eval g).run P w with
     |halt x w'=>
      rw[f]at h;cases x<;>simp only[Oper.upon]at h;exact absurd h (hQ _ _ _)
     |ok n w'=>
      have e:=v1 _ _ _ f;subst e;obtain⟨u,rfl⟩:=v2 _ _ _ f;rw[f]at h;simp only[Oper.upon]at h;have hyl:YieldsIf P L.toArray S g u a:=.inl ⟨by simp[Region.wanted,G],λw2 hS2=>by obtain⟨b,hb,hlo⟩:=ZGb (w2:=w2) ho f;have hb':b=β r:=O _ (Mg he) b (by rw[<-Wj hy];exact hb);have hFb:F b:=(by rw[hb'];exact hF _ (Mg he));have e1:=hS0 b w' hFb hS;have e2:=hS0 b w2 hFb hS2;obtain⟨C,q1,q2,q3⟩:=hC b hFb;exact hlo ⟨C,q1,q2,by rw[e1];exact q3⟩ (by rw[e1,e2])⟩;exact wpAnyH_first hiA hsel (λc a w hq=>absurd hq (hQ _ _ _)) rest.len l a w' (free c3) T hyl hS (ih _ _ h.1 (q env g a _ w' _ rfl h0 O ⟨u,λ_=>rfl⟩ λv w1 e=>by rw[f]at e;cases e;rfl) h.2)
    ·have hq0:(F8 g&&(D0 P g||SH env g))=false:=(by cases W:F8 g<;>cases Y:D0 P g<;>cases B:SH env g<;>simp_all);rw[hq0]at c3;dsimp only at c3;by_cases A:L.all F8=true
     case neg=>
      have A:L.all F8=false:=(by cases hq:L.all F8 with|false=>rfl|true=>exact absurd hq A);rw[A]at c3;dsimp only at c3;refine⟨λh0=>(by rw[h0]at T;cases T),λk M=>?_⟩;have hki:k=i:=by
       obtain⟨k0,ok,hok,A⟩:=mem_ready.1 M;have hkl:k<L.length:=(by have:=(G5.1 hok).1;simpa using this);have:=gV (k:=k) c3 (by simpa using hok);rw[YU]at this;rcases this with B|B|⟨e,he,hb,K⟩
       ·have:=(hl k hkl).2 B;rw[k0]at this;cases this
       ·exact Y5.1 B
       ·have U:=A e he hb;have h5:e.on<L.length:=by
         rcases YN e.on l.size with h|h
         ·omega
         ·simp[Gh h,YD]at U
        refine absurd ((hl e.on h5).1 ?_) K;simp only[YD]at U⊢;rw[Yy ae]at U⊢;simpa using U
      subst hki;exact(h.put.mono λm w' s=>⟨s.1.1,ih m w' s.1.1 (q env g a m w _ h X O s.2.1 s.2.2) s.1.2⟩).op hiA
     rw[A]at c3;dsimp only at c3;have hu:∀(j:Nat) (o:Oper),L.toArray[j]?=some o->o.guard=none:=λj o ho=>Wl (Yv.1 A o (Yg (by simpa using ho)));have G:=hu i g hiA;have J:F8 g=true:=Yv.1 A g (Yg hi);rw[J,Y9]at hv;have h:=h.un G;have h':=l5 h;have q:∀(env:List (Nat×Nat)) (o:Oper) (a m:Act) (w:World) (N:Act->World->Prop),o=g->o.wp P a w N Q->JF β env a->LV o a m->(∀v w1,(execOp a.eval o).run P w=.ok (.value v) w1->m=a.put o.dst v)->JF β (DG P env o) m:=λenv o a m w N he hw O W Y=>by subst he;exact q env o a m w N (by unfold CN;rw[Yi (by simp[Region.wanted,G])];exact hw) X O W λ_=>Y
     have at_:∀j V,L.toArray[j]?=some V->j≠i->l.getD j true=false->¬Waits L.toArray j i->g.apart L.toArray V=true/\DQ P g=true/\(DQ P V||Lm V)=true:=λj V R E I K=>by
      have hjl:j<L.length:=(by have:=(G5.1 R).1;simpa using this);have:=yg (k:=j) c3 (by simpa using R);rw[YU]at this;rcases this with B|B|B|⟨B,U⟩
      ·exact absurd B (hli j hjl I)
      ·exact absurd B E
      ·exact absurd B K
      ·rcases U with U|U
       ·exact absurd U hv
       ·exact⟨B,U⟩
     by_cases hrd:DQ P g=true
     ·obtain⟨v1,v2⟩:=Rr (P:=P) (ρ:=a.eval) hrd;have h0:=h;unfold Oper.wp at h;cases f:(execOp a.eval g).run P w with
      |halt x w'=>
       rw[f]at h;cases x<;>simp only[Oper.upon]at h;exact absurd h (hQ _ _ _)
      |ok n w'=>
       have e:=v1 _ _ _ f;subst e;obtain⟨u,rfl⟩:=v2 _ _ _ f;rw[f]at h;simp only[Oper.upon]at h;exact ZoI hiA hrd hu hsel hQ hO rest.len l a w' hD (λj V R E I K=>⟨(at_ j V R E I K).1,(at_ j V R E I K).2.2⟩) T f hS (ih _ _ h.1 (q env g a _ w' _ rfl h0 O ⟨u,λ_=>rfl⟩ λv w1 e=>by rw[f]at e;cases e;rfl) h.2)
     ·refine⟨λh0=>(by rw[h0]at T;cases T),λj hj=>?_⟩;have E:j=i:=(by apply PJ;intro E;obtain⟨I,V,R,_⟩:=mem_ready.1 hj;exact hrd (at_ j V R E I (hD.nowait hj hun)).2.1);subst E;unfold wpOp;simp only[hiA];rw[Yi (by simp[Region.wanted,hu j g hiA])];exact .inl (Oper.wp_mono (λm w' s=>⟨s.1.1,ih m w' s.1.1 (q env g a m w _ rfl h O s.2.1 s.2.2) s.1.2⟩) h')
end
def JU(r:Ren):List (Ad×Blk)->Prop
 |[]=>True
 |(k,_)::t=>match Nat.beq k.1 1 with|true=>JU r t|false=>M8 r k/\JU r t
def U9:List (Ad×Blk)->Hp->Hp
 |[],H=>H
 |(k,b)::t,H=>U9 t (updH H k b)
def pHc(P:Program)(l n os:Nat)(r:Ren)(c:Option Nat)(d:AV)(xs:List AV)(a:AT)(K:St->AT->Prop)(τ:St):Prop:=
 match d,a with
 |.fn (.func f) [] [],.hard x ks Av [] b=>(match ks.all (BO os),Ea os Av with
  |true,true=>I0 P l r f xs (ks.map λk=>(k,τ.H k)) x Av []/\JU r Av/\Vb n K τ.s (U9 Av τ.H) x b c
  |_,_=>False)
 |_,_=>False
def ZH2:AT->Bool
 |.hard _ _ _ _ _=>true
 |_=>false
def dE(P:Program)(T:Nat->Option TI)(l n os:Nat)(r:Ren)(o:Oper)(a:AT)(K:St->AT->Prop)(τ:St):Prop:=
 match ZH2 a,o.op with
 |true,.call c=>(match c.callee with
  |.value b=>pHc P l n os r o.dst (ev τ.s b) (c.args.toList.map (ev τ.s)) a K τ
  |_=>False)
 |_,_=>JC P T l n r o a K τ
section
variable {P:Program} {T:Nat->Option TI} {r:Ren} {l n outs:Nat} {B:Base} {env:BP} {τ σ:St} {a:AT} {o:Oper} {K:St->AT->Prop}
theorem xx(f:RenOk r l outs):∀(Av:List (Ad×Blk)) {τ σ:St},Ea outs Av=true->JU r Av->RG r l outs env τ σ->RG r l outs env ⟨τ.s,U9 Av τ.H⟩ ⟨σ.s,DH r Av σ.H⟩
 |[],τ,σ,_,_,h=>h
 |(k,b)::t,τ,σ,e,a,h=>by
  simp only[Ea,Yc]at e;obtain⟨⟨⟨i,j⟩,n⟩,m⟩:=e;have d:LK r outs k/\JU r t:=by
   unfold JU at a;rcases Ho i with c|⟨c,g⟩
   ·rw[c]at a;exact⟨.inl c,a⟩
   ·rw[c]at a;exact⟨.inr ⟨c,g,a.1.2⟩,a.2⟩
  exact xx f t (τ:=⟨τ.s,updH τ.H k b⟩) (σ:=⟨σ.s,updH σ.H (r.κ k) (AP r k b)⟩) m d.2 (RG.updH f h k b j d.1)
theorem Zyj(E:RenOk r l outs)(N:Bi P T)(h:RG r l outs env τ σ)(t:CE env [] o.op=true)(G:IY env o.dst=true)(d:dE P T l n outs r o a K τ):CS P l n B o (KA r l n outs B (FS env o.dst) K) σ:=by
 unfold dE at d;split at d
 case h_2=>exact xP E N h t G d
 rename_i c S H;split at d
 case h_2=>exact d.elim
 rename_i s e;unfold pHc at d;split at d
 case h_2=>exact d.elim
 rename_i f x ks Av b C;split at d
 case h_2=>exact d.elim
 rename_i D j;obtain⟨L,z,M⟩:=d;have ops:∀x∈o.op.operands,ev σ.s x=ren r (ev τ.s x):=by
  unfold CE at t;split at t
  ·grind
  ·exact Hf h A9 t
 rw[H]at ops;have g:∀x,x=s\/x∈c.args.toList->x∈(Op.call c).operands:=λx hx=>by simp only[Op.operands,Call.operands,e];grind
 have A:ev σ.s s=.fn (.func f) [] []:=by rw[ops s (g s (.inl rfl)),C];simp[ren,Aq]
 have F:=L σ.H (λp d=>by
  obtain⟨q,O,rfl⟩:=YV.1 d;have m:=Ho (Yv.1 D q O);refine⟨?_,λhl=>h.h q hl⟩;obtain⟨U,I⟩:=q;simp only at m;rcases m with rfl|⟨rfl,z⟩
  ·have:=h.g I;rw[<-E.own]at this;exact this
  ·exact h.go I z) h.o
 have i:Aq r (c.args.toList.map (ev τ.s))=c.args.toList.map (ev σ.s):=by rw[Gt,J8];exact El λy hy=>(ops y (g y (.inr hy))).symm
 refine Mh ?_;unfold BI;rw[H];simp only[e,A,Ge,Iy];rw[i]at F;refine F.mono λy u ⟨R,J,v,w⟩=>?_;have Q:R=r.γ:=funext λk=>J k (by simp);subst Q;have v:y=ren r x:=v;have w:u=DH r Av σ.H:=w;subst w;exact yG (τ':=⟨τ.s,U9 Av τ.H⟩) G (xx E Av j z h) v M
end
def MC(P:Program)(T:Nat->Option TI)(l n os:Nat)(r:Ren)(ds:List (Option Nat))(o:Oper)(env:BP)(a:AT)(K:St->BP->AT->Prop)(τ:St):Prop:=
 match o.guard with
 |none=>(match CE env [] o.op,IY env o.dst with
  |true,true=>dE P T l n os r o a (λτ' c=>K τ' (FS env o.dst) c) τ
  |_,_=>False)
 |some (i,b)=>(match Bp ds i,o.dst with
  |some (some d),some e=>(match Hm τ.s ((d,b)::lk env d),CE env ((d,b)::lk env d) o.op,fresh e env&&ML e ((d,b)::lk env d),Nat.ble (e+1) n with
   |some g,true,true,true=>pV P T l r τ o.op (some g) a (λv c=>K ⟨upd τ.s e v,τ.H⟩ ((e,(d,b)::lk env d)::env) c)
   |_,_,_,_=>False)
  |_,_=>False)
def HH(P:Program)(T:Nat->Option TI)(l n os:Nat)(r:Ren)(L:List Oper):Pl->BP->AT->(St->BP->AT->Prop)->St->Prop
 |.nil,env,a,K,τ=>K τ env a
 |.fst i x,env,a,K,τ=>match Bp L i with
  |some o=>MC P T l n os r (L.map (·.dst)) o env a (λτ' b c=>HH P T l n os r L x b c K τ') τ
  |none=>False
 |.two i j x y,env,a,K,τ=>match Bp L i,Bp L j,a with
  |some o,some e,.br a1 d=>MC P T l n os r (L.map (·.dst)) o env a1 (λτ' b c=>HH P T l n os r L x b c K τ') τ/\MC P T l n os r (L.map (·.dst)) e env d (λτ' b c=>HH P T l n os r L y b c K τ') τ
  |_,_,_=>False
 |.opt _ i x y,env,a,K,τ=>match Bp L i with
  |some o=>(match T6 y with
   |true=>(match a with
    |.br a1 d=>MC P T l n os r (L.map (·.dst)) o env a1 (λτ' b c=>HH P T l n os r L x b c K τ') τ/\HH P T l n os r L y env d K τ
    |_=>False)
   |false=>MC P T l n os r (L.map (·.dst)) o env a (λτ' b c=>HH P T l n os r L x b c K τ') τ)
  |none=>False
section
variable {P:Program} {T:Nat->Option TI} {r:Ren} {l n outs:Nat} {B:Base}
theorem QZ(Z:RenOk r l outs)(G:Bi P T){L:List Oper}{K:St->BP->AT->Prop}{QQ:Exit->Act->World->Prop}{o:Oper}{env:BP}{a:AT}{τ σ:St}{act:Act}{w:World}(h:MC P T l n outs r (L.map (·.dst)) o env a K τ)(t:RG r l outs env τ σ)(x:R l n B σ act w):
  CN P L.toArray QQ o act w (λc w'=>∃τ' k j A,K τ' k j/\RG r l outs k τ' A/\R l n B A c w'):=by
 unfold MC at h;unfold CN;split at h
 ·rename_i z;rw[Yi (by simp[Region.wanted,z])];split at h
  case h_2=>exact h.elim
  rename_i U Y;refine Oper.wp_mono (λc w' E=>?_) (Zyj (B:=B) Z G t U Y h act w x QQ);obtain⟨A,⟨F,⟨τ',j,q,C⟩,M⟩,N⟩:=E;exact⟨τ',_,j,F,q,C,M _ _ N⟩
 ·rename_i i b z;split at h
  case h_2=>exact h.elim
  rename_i d e V he;split at h
  case h_2=>exact h.elim
  rename_i g p hx f u;simp only[Yc]at f;have u:=Ym u;have D:=gA t V p;have hy:(yielded L.toArray act.tmps i==some b)=g:=by obtain⟨s,H⟩:=σ;obtain⟨m,S,hO,I,W,Q,X⟩:=x.un;exact gH Q (by simpa using D)
  cases g with
  |true=>
   have hs:=(KP p).1 rfl;rw[Yi (by simp only[Region.wanted,z];exact hy)];have O:CS P l n B o (Yl r e (λv j=>K ⟨upd τ.s e v,τ.H⟩ ((e,(d,b)::lk env d)::env) j) σ) σ:=Mh (by obtain⟨J,op,ty,ps,af,gd⟩:=o;simp only at he;subst he;exact jl G t hs (λb' e'=>by cases e';rfl) hx ae h);refine Oper.wp_mono (λc w' E=>?_) (O act w x QQ);obtain⟨A,⟨v,j,rfl,q⟩,C⟩:=E;exact⟨_,_,j,_,q,t.put f.1 f.2 (λ_=>rfl) (λI=>absurd hs I),C⟩
  |false=>
   have hs:¬Dn τ.s ((d,b)::lk env d):=λhs=>by have:=(KP p).2 hs;cases this
   obtain⟨v,j,q⟩:=X7 h;rw[Yh (by simp only[Region.wanted,z,hy];decide),he];exact⟨_,_,j,_,q,t.put f.1 f.2 (y:=.tup []) (λh=>absurd h hs) (λ_=>rfl),R.undef x ae⟩
theorem ZtJ(A:RenOk r l outs)(v:Bi P T){L:List Oper}{K:St->BP->AT->Prop}{QQ:Exit->Act->World->Prop}{S:World->Prop}(u:∀σ a w,R l n B σ a w->S w)
  (E:∀τ' c t s b w',K τ' c t->RG r l outs c τ' s->R l n B s b w'->QQ .normal b w'):
  ∀(π:Pl) (env:BP) (a:AT) (τ σ:St) (e:Act) (w:World),HH P T l n outs r L π env a K τ->RG r l outs env τ σ->R l n B σ e w->ER P L QQ S π e w:=by
 intro π
 induction π with
 |nil=>intro env a τ σ e w h f g;exact E _ _ _ _ _ _ h f g
 |fst i x F=>
  intro env a τ σ e w h f g;unfold HH at h;split at h
  ·rename_i o z;unfold ER;rw[z];exact(QZ A v h f g).mono λb w' ⟨τ',c,t,s,k,m,d⟩=>⟨u _ _ _ d,F _ _ _ _ _ _ k m d⟩
  ·exact h.elim
 |two i j x y p q=>
  intro env a τ σ e w h f g;unfold HH at h;split at h
  ·rename_i o H a1 G z C;unfold ER;rw[z,C];exact⟨(QZ A v h.1 f g).mono λb w' ⟨τ',c,t,s,k,m,d⟩=>⟨u _ _ _ d,p _ _ _ _ _ _ k m d⟩,(QZ A v h.2 f g).mono λb w' ⟨τ',c,t,s,k,m,d⟩=>⟨u _ _ _ d,q _ _ _ _ _ _ k m d⟩⟩
  ·exact h.elim
 |opt hs i x y p q=>
  intro env a τ σ e w h f g;unfold HH at h;split at h
  ·rename_i o z;unfold ER;rw[z];split at h
   ·split at h
    ·exact⟨(QZ A v h.1 f g).mono λb w' ⟨τ',c,t,s,k,m,d⟩=>⟨u _ _ _ d,p _ _ _ _ _ _ k m d⟩,λ_=>q _ _ _ _ _ _ h.2 f g⟩
    ·exact h.elim
   ·rename_i hy;exact⟨(QZ A v h f g).mono λb w' ⟨τ',c,t,s,k,m,d⟩=>⟨u _ _ _ d,p _ _ _ _ _ _ k m d⟩,λD=>by rw[hy]at D;cases D⟩
  ·exact h.elim
end
def zB(s:Nat->AV):List Nat->Bool
 |[]=>true
 |z::r=>(match s z with|.iptr (_::_) _=>true|_=>false)&&zB s r
theorem pO{s:Nat->AV}:∀{Z:List Nat},zB s Z=true->∀z∈Z,∃x ds off,s z=.iptr (x::ds) off
 |[],_,z,a=>by cases a
 |y::r,h,z,a=>by
  simp only[zB,Yc]at h;rcases Yx.1 a with rfl|a
  ·grind
  ·exact pO h.2 z a
def ka(o:Oper):Bool:=match o.op with
 |.select _ _=>false
 |_=>true
def qM(P:Program)(π:Pl)(Z:List Nat):Code->Bool
 |.region _ ops true=>ops.toList.all ka&&Nat.beq π.len ops.toList.length&&Ht P ops.toList (Z.map λz=>(z,z)) [] π&&NQ π
 |_=>false
section
variable {P:Program} {T:Nat->Option TI} {n:Nat} {C:Cx} {τ:St} {Q:Exit->St->Prop} {os:Nat} {c:Code} {β:Type} {L:β->Prop} {y:β}
theorem Et{fx:List Nat}(co:COx C os fx)(hT:Bi P T)(hm':P.follows .mixedOrders=true)(π:Pl)(Z:List Nat)(v:PT os β)(lf:Lf)(hv:v.m=some y)(hL:HL L y)(hn:∀r (g:Gd C r),v.n ⟨⟨C.l,r,Q,λ_ _=>False⟩,L,C,_,co,g,rfl⟩)
  (hq:∀l r Q A,Bg r os v.a τ (λτ a=>match zB τ.s Z with|true=>HH P T l n os r (Cf c).toList π [] a (λτ' env f=>Bg r os f (Eh env τ') (λτ _=>EO fx lf τ (Q .normal))) τ|false=>False)=v.q ⟨l,r,Q,A⟩:=by intro l r Q P;kernel_rfl)
  (W:qM P π Z c=true:=by kernel_rfl):LW P n C c τ Q:=by
 cases c with
 |region id ops dr=>
  cases dr with
  |false=>cases W
  |true=>
   obtain⟨t,rfl⟩:∃l:List Oper,ops=l.toArray:=⟨ops.toList,by simp⟩;simp only[qM,Yc]at W;obtain⟨⟨⟨k1,k2⟩,k3⟩,k4⟩:=W;intro γ σ hg hG a w hR;have hR':R C.l n C.B σ a {w with drawn:=w.drawn+1 }:=(by obtain⟨s,H⟩:=σ;obtain⟨m,S,hO,hn,hdf,hS,hex⟩:=hR.un;obtain⟨k,u⟩:=hO.drew (w':={w with drawn:=w.drawn+1 }) rfl rfl rfl rfl;exact R.keep k hn hdf hS hex u);have k:=v.ok _ (hn (C.r γ) ⟨rfl,rfl,rfl,rfl⟩) y hv hL;rw[<-hq]at k;generalize v.a=va at k;have ok:=co.ok;rw[<-co.O,<-co.F]at k;obtain⟨τ₁,a₁,σ₁,u,G,hw1⟩:=Cv (n:=n) ok va k hG;split at u
   case h_2=>exact u.elim
   rename_i hz;have hR1:=hw1 _ _ hR';obtain⟨s1,X⟩:=σ₁;obtain⟨m1,D,hO1,hn1,hd1,q,I⟩:=hR1.un;let N:Base:=⟨X,m1,D,{w with drawn:=w.drawn+1 }⟩;have hRB:R C.l n N ⟨s1,X⟩ a {w with drawn:=w.drawn+1 }:=⟨m1,D,hO1,hn1,hd1,q,Ext.refl _ _ _ _ _⟩;have E:∀d f w',R C.l n N d f w'->R C.l n C.B d f w':=λd f w' h=>by obtain⟨m2,S2,O,U,g3,g4,Y⟩:=h;exact⟨m2,S2,O,U,g3,g4,I.trans Y⟩
   let S:World->Prop:=λw'=>∀b,D b->w'.heap[b]?=({w with drawn:=w.drawn+1 }:World).heap[b]?;have hS1:∀d f w',R C.l n N d f w'->S w':=λd f w' h b i=>by obtain⟨m2,S2,O,U,g3,g4,Y⟩:=h;exact Y.blk b i
   have hGd:∀(j:Nat) (o:Oper),t.toArray[j]?=some o->ka o=true:=λj o ho=>Yv.1 k1 o (Yg (by simpa using ho));have K:∀(j:Nat) (o:Oper) cs b,t.toArray[j]?=some o->o.op≠.select cs b:=λj o cs b ho he=>by have:=hGd j o ho;unfold ka at this;rw[he]at this;cases this
   let Q2:Exit->Act->World->Prop:=λe f w'=>∃d,Is n C (match e with|.normal=>Q .normal|_=>λ_=>False) d/\R C.l n C.B d f w';have hpl:ER P t Q2 S π a {w with drawn:=w.drawn+1 }:=(by refine ZtJ (ok.ren γ) hT (B:=N) hS1 (λτ' env' f d act' w' k1 k2 k3=>?_) π [] a₁ τ₁ ⟨s1,X⟩ a _ u G hRB;obtain⟨σ₂,O,U⟩:=Q6 (n:=n) k2;obtain⟨τ₃,a₃,σ₃,f1,f2,f3⟩:=Cv (n:=n) ok f k1 O;obtain⟨γ',τ₄,σ₄,j0,j1,j2,j3⟩:=IM (n:=n) ok f1 hg f2;exact⟨σ₄,⟨γ',τ₄,σ₄,j0,j1,j2,Wk.refl _⟩,j3 _ _ (f3 _ _ (U _ _ (E _ _ _ k3)))⟩);have hF:∀z∈Z,∃b,pb (a.eval (.tmp z))=some b/\D b/\Fx {w with drawn:=w.drawn+1 } b:=λz hz'=>by
    obtain⟨x,ds,off,e⟩:=pO hz z hz';have hsz:s1 z=.iptr (x::ds) off:=(by have:=(G.s z).1 A9;simp only at this;rw[this,e];simp[ren]);have hx:=q z;rw[hsz]at hx;show∃b,pb (a.tmps.getD z Go.undef)=some b/\_;generalize a.tmps.getD z Go.undef=vv at hx;cases hx with
    |iptr _ _ ad c i hc hr=>
     refine⟨(ad.add off).block,rfl,by rw[block_add];exact i,?_⟩;rw[block_add];have V:=hc 0 x rfl;simp only[World.cell?]at V;have hbk:(ad.add 0).block=ad.block:=block_add _ _;rw[hbk]at V;split at V
     ·rename_i C0 e0 f0 hh;exact⟨C0,e0,f0,hh⟩
     ·cases V
   have hw:=Zvu (P:=P) (L:=t) (Q:=Q2) (S:=S) (β:=λz=>(pb (a.eval (.tmp z))).getD 0) (F:=λb=>D b/\Fx {w with drawn:=w.drawn+1 } b) (w0:={w with drawn:=w.drawn+1 }) (λb w' i hS=>hS b i.1) (λb i=>i.2) K
    (λc a w ⟨d,⟨_,_,_,_,J,_⟩,_⟩=>J) (λ⟨a,w,d,⟨_,_,_,_,J,_⟩,_⟩=>J) π (Z.map λz=>(z,z)) [] (Array.replicate t.toArray.size false) a {w with drawn:=w.drawn+1 } (by simp) (λj hj=>by simp[hj]) (λx hx=>by cases hx)
    (λm om hm hl=>by have:(Array.replicate t.toArray.size false).getD m false=false:=(by simp only[YD,Array.getElem?_replicate];split<;>rfl);rw[this]at hl;cases hl) (by simpa using k3)
    (λp hp=>by obtain⟨z,M,rfl⟩:=YV.1 hp;obtain⟨b,b1,b2⟩:=hF z M;simp only[b1,YK];exact b2)
    (λp hp b i=>by obtain⟨z,M,rfl⟩:=YV.1 hp;simp only at i;simp only[i,YK]) (λb i=>rfl) hpl
   have hs:π.len=t.toArray.size:=(by simpa using Yd k2);rw[hs]at hw;refine wp_mono (wp_region_held hm' (hw.1 k4)) λe f w' ⟨d,k,u⟩=>⟨d,?_,u⟩;cases e with
   |normal=>exact k
   |_=>obtain⟨_,_,_,_,J,_⟩:=k;exact J.elim
 |_=>cases W
@[reducible] def tw(a b:PT os β):PT os β:=⟨.br a.a b.a,λE=>a.q E/\b.q E,a.m,λE=>a.n E/\b.n E/\(∀y,a.m=some y->b.m=some y),λE c y hm d=>⟨a.ok E c.1 y hm d,b.ok E c.2.1 y (c.2.2 y hm) d⟩⟩
@[reducible] def du(k:PT os β):PT os β:=⟨.br k.a k.a,λE=>k.q E/\k.q E,k.m,k.n,λE b y hm a=>⟨k.ok E b y hm a,k.ok E b y hm a⟩⟩
theorem i5{C:Cx}{r:Ren}(g:Gd C r):∀{Av:List (Ad×Blk)},Ea os Av=true->Ga C Av->JU r Av
 |[],_,_=>trivial
 |(k,b)::t,c,h=>by
  simp only[Ea,Yc]at c;obtain⟨⟨⟨e,i⟩,j⟩,d⟩:=c;unfold JU;unfold Ga at h;rcases Ho e with a|⟨a,f⟩
  ·rw[a]at h⊢;exact i5 g d h
  ·rw[a]at h⊢;exact⟨⟨a,by rw[g.no,g.κ];exact h.1⟩,i5 g d h.2⟩
@[reducible] def ch{γ:Type}[Inhabited γ](P:Program)(f:FuncId)(xs:List AV)(ks:List Ad)(d:List (Ad×Blk))(M:Option γ)(e:γ->AV)(Av:γ->List (Ad×Blk))(k:γ->PT os β)(b:∀z,Ea os (Av z)=true:=by intro z;kernel_rfl):PT os β:=
 ⟨.hard (e (M.getD default)) ks (Av (M.getD default)) [] (k (M.getD default)).a,λE=>I0 P E.l E.r f xs d (e (M.getD default)) (Av (M.getD default)) []/\JU E.r (Av (M.getD default))/\(k (M.getD default)).q E,M.bind λy=>(k y).m,
 λE=>(∀y,M=some y->I0 P E.C.l E.E.r f xs d (e y) (Av y) [])/\(∀y,Ga E.C (Av y))/\∀y,(k y).n E,λE a y hm i=>by
  obtain⟨x,c,g⟩:=bind_some hm;have h:M.getD default=x:=by rw[c];rfl
  rw[h];exact⟨by rw[E.hl];exact a.1 x c,i5 E.g (b x) (a.2.1 x),(k x).ok E (a.2.2 x) y g i⟩⟩
end
section
variable {os:Nat} {β α:Type} [Rw α]
abbrev dB(xs:List α)(off cn:Nat)(z:List AV):List AV:=(Ab Rw.e xs).take (off*Rw.s α)++(List.replicate cn z).flatten++(Ab Rw.e xs).drop ((off+cn)*Rw.s α)
@[reducible] def cr(xs:List α)(off cn:Nat)(z:List AV)(k:PT os β):PT os β:=⟨.cs (dB xs off cn z) k.a,λE=>dN (Ab Rw.e xs) off cn (Rw.s α) z (dB xs off cn z)/\k.q E,
 if off+cn<=xs.length then k.m else none,k.n,λE c y hm b=>by obtain⟨a,hm⟩:=BD hm;exact⟨Zzg Rw.len a,k.ok E c y hm b⟩⟩
@[reducible] def Ls(q:Nat)(xs:List α)(off cn:Nat)(z:List AV)(k:PT os β)(d:Nat.ble (q+1) os=true:=by kernel_rfl):PT os β:=⟨.trim (0,q) (Ab Rw.e (xs.take off)) k.a,λE=>(∃m,(dB xs off cn z).take m=Ab Rw.e (xs.take off))/\M8 E.r (0,q)/\k.q E,
 if off<=xs.length then k.m else none,k.n,λE c y hm b=>by obtain⟨a,hm⟩:=BD hm;exact⟨ZAc Rw.len a,⟨rfl,by rw[E.g.no,E.g.κ];exact E.co.W q (Ym d)⟩,k.ok E c y hm b⟩⟩
end
theorem zT{P:AV->List Blk->Prop}{v a:AV}{B:List Blk}(e:v=a)(h:P a B):P v B:=e▸h
theorem JT{A B:Prop}(b:A->B)(a:A):B:=b a
def gF(a fr:List Nat)(δ:Nat->Nat):Ad->Nat
 |(0,i)=>match fr.any (Nat.beq i)with|true=>δ i|false=>It a (0,i)
 |(_+1,_)=>0
def rF(l:Nat)(ks:List Ad)(a fr:List Nat)(δ:Nat->Nat)(H:Hp):Ren:=⟨ED l ks,gF a fr δ,λ_=>.top,H,λk=>k∈ks⟩
def J0(κ:Ad->Ad):List (Nat×Nat)->Prop
 |[]=>True
 |(a,b)::t=>(κ (0,a)).1<=(κ (0,b)).1/\J0 κ t
structure KG (P:Program) (f:FuncId) (os:Nat) (fr:List Nat) (lv:List (Nat×Nat)) (ys:List AV) (bi:List Blk) {γ:Type} (M:Option γ) (e:γ->AV) (bs:γ->List Blk):Prop where
 k:∀l H (ks:List Ad) (gs:List Nat),ks.length=os->Kf l ks->ks.Nodup->Lx H (CI l ks gs (λ_=>.top) H) (DY 0 bi) 0 ks->J0 (ED l ks) lv->∀y,M=some y->
  Zdm P f l (Aq (CI l ks gs (λ_=>.top) H) ys) H (λz H'=>∃δ,z=ren (rF l ks gs fr δ H) (e y)/\H'=Ed H ks (Dk (rF l ks gs fr δ H) 0 (bs y)))
theorem j5{P:Program}{T:Nat->Option TI}{n:Nat}{f:FuncId}{fn:Func}{ys:List AV}{bi:List Blk}{γ:Type}{M:Option γ}{e:γ->AV}{bs:γ->List Blk}(R:P.funcs[f]?=some fn)(W:fn.ntmps=n)(O:Bi P T)(w:List ResultVar)(os:Nat)(fr fx:List Nat)(lv:List (Nat×Nat))
  (h:∀C:Cx,COx C os fx->J0 C.κ lv->∀y,M=some y->∀a:AV->List Blk->Prop,HL (λy=>a (e y) (bs y)) y->LW P n C (pa [] (Au fn)) (Ac (D7 0 ys) (DY 0 bi)) (FQ T w os a))
  (o:(Km os).all (λi=>fr.any (Nat.beq i)||fx.any (Nat.beq i))=true:=by kernel_rfl)
  (he:∀y,Lp os (e y)=true:=by intro y;kernel_rfl) (x:∀y,GV os (bs y):=by intro y;repeat(first|exact trivial|refine⟨.inl (FI _ _),rfl,?_⟩|refine⟨.inl K7,rfl,?_⟩|refine⟨.inr aC,rfl,?_⟩)) (hl:∀y,(bs y).length=os:=by intro y;rfl) (d:JD os (DY 0 bi)=true:=by kernel_rfl)
  (Q:fn.body=some (Au fn):=by kernel_rfl) (c:(fn.name== "runtime.NumGoroutine")=false:=by kernel_rfl) (X:fn.results.toList=w:=by kernel_rfl) (hx:Nat.ble ys.length n=true:=by kernel_rfl):KG P f os fr lv ys bi M e bs:=
 ⟨λl H ks m p g t K s y hy=>by
  subst p;refine vQ w (Au fn) ks m fx (λ_=>.top) ys (DY 0 bi) (λz b=>z=e y/\b=bs y) R Q c W X (by rw[C5];exact Ym hx) O (WD g) t (gL d) (ij d) (λi k U=>by have:=jj K i k U;rw[YU]at this;exact this) rfl (λC I N J V L hθ B u=>?_) λz b ⟨D,E⟩=>?_
  ·refine h C ⟨I,N,J,λq A=>?_⟩ (by rw[B];exact s) y hy _ ⟨rfl,rfl⟩;rw[u,B];show(match Bp ks q with|some k=>k|none=>(0,0))∈ks;rw[CC,Ye ae];exact G3 _
  ·subst D;subst E;refine⟨hl y,(x y).live,λr F Y Z h4 G=>⟨λi=>r.γ (0,i),?_⟩⟩;have hs:O5 ks.length r (rF l ks m fr (λi=>r.γ (0,i)) H):=λq A=>by
    refine⟨by rw[F];rfl,?_⟩;show r.γ (0,q)=match fr.any (Nat.beq q)with|true=>r.γ (0,q)|false=>It m (0,q)
    cases v:fr.any (Nat.beq q)with
    |true=>rfl
    |false=>
     have:=Yv.1 o q (Ww A);rw[v,G4]at this;obtain⟨j,S,e⟩:=YP.1 this;have:=Yd e;subst this;exact G q S
   exact⟨iI hs _ (he y),by rw[GV.ren hs _ _ (by rw[hl];omega) (x y)]⟩⟩
def gB(r:Ren)(fr:List Nat)(δ:Nat->Nat):Nat->List (Ad×Blk)->Ad->Nat
 |_,[],k=>r.γ k
 |i,(q,_)::t,k=>match fr.any (Nat.beq i),BM k q with|true,true=>δ i|_,_=>gB r fr δ (i+1) t k
def Ir(fr:List Nat):Nat->List (Ad×Blk)->List Ad
 |_,[]=>[]
 |i,(q,_)::t=>match fr.any (Nat.beq i)with|true=>q::Ir fr (i+1) t|false=>Ir fr (i+1) t
theorem jx{r:Ren}{fr:List Nat}{δ:Nat->Nat}{k:Ad}:∀(a:List (Ad×Blk)) (i:Nat),k∉Ir fr i a->gB r fr δ i a k=r.γ k
 |[],i,_=>rfl
 |(q,b)::t,i,h=>by
  simp only[Ir]at h;simp only[gB];cases c:fr.any (Nat.beq i)with
  |false=>rw[c]at h;exact jx t (i+1) h
  |true=>
   rw[c]at h;simp only[Yx,not_or]at h;have:BM k q=false:=by
    cases d:BM k q with
    |false=>rfl
    |true=>exact absurd (CL.1 d) h.1
   rw[this];exact jx t (i+1) h.2
def rB(r:Ren)(fr:List Nat)(δ:Nat->Nat)(a:List (Ad×Blk)):Ren:=⟨r.κ,gB r fr δ 0 a,r.θ,r.H0,r.no⟩
section
variable {P:Program} {f:FuncId} {os os':Nat} {fr fx:List Nat} {lv:List (Nat×Nat)} {ys:List AV} {bi:List Blk} {γ:Type} {M:Option γ} {e:γ->AV} {bs:γ->List Blk} {C:Cx} {r:Ren} {xs:List AV} {x:AV} {y:γ}
theorem ZxV(K:KG P f os fr lv ys bi M e bs)(hy:M=some y)(co:COx C os' fx)(g:Gd C r)(a u c:List (Ad×Blk))(o:J0 (ED (C.l+1) ((a.map (·.1)).map r.κ)) lv)
  (n:∀H,BE (rC C r a (λ_=>.top) H) r 0 bi a) (i:∀H δ,BE (rF (C.l+1) ((a.map (·.1)).map r.κ) (FW r a) fr δ H) (rB r fr δ a) 0 (bs y) c) (l:(bs y).all Blk.live=true:=by kernel_rfl) (hx:∀H,Aq (rC C r a (λ_=>.top) H) ys=Aq r xs:=by intro H;kernel_rfl)
  (t:∀H δ,ren (rF (C.l+1) ((a.map (·.1)).map r.κ) (FW r a) fr δ H) (e y)=ren (rB r fr δ a) x:=by intro H δ;kernel_rfl)
  (d:((a.map (·.1)).all (BO os')&&HZ (a.map (·.1))&&Nat.beq a.length os)=true:=by kernel_rfl) (he:a.map (·.1)=c.map (·.1):=by rfl):I0 P C.l r f xs (a++u) x c (Ir fr 0 a):=by
 have q:∀b∈bs y,b.live=true:=λb B=>Yv.1 l b B;have m:∀p∈a,p∈a++u:=λp s=>IE _ s;intro h D E;simp only[Yc]at d;have:=K.k (C.l+1) h ((a.map (λp:Ad×Blk=>p.1)).map r.κ) (FW r a) (by rw[YF,YF];exact Yd d.2) (OC co g _ d.1.1) (Q7 (W4 co g) _ d.1.2 d.1.1)
  (RA bi a 0 bi (λj=>by have:=Rs bi 0 j;rwa [YU]at this⊢) (n h) λp s=>D p (m p s)) o y hy
 rw[<-hx h];refine this.mono λz v ⟨δ,w,A⟩=>⟨gB r fr δ 0 a,λk d=>jx a 0 d,w.trans (t h δ),A.trans ?_⟩;exact hI (r:=rB r fr δ a) (bs y) a c 0 h (i h δ) q he
end
section
variable {P:Program} {T:Nat->Option TI} {n:Nat} {C:Cx} {τ:St} {Q:Exit->St->Prop} {os k:Nat} {c:Code} {β:Type} {L:β->Prop} {y:β} {fx:List Nat}
theorem ZIs{r:Ren}(co:COx C os fx)(g:Gd C r)(a b:Nat):(r.κ (1,a)).1<=(r.κ (1,b)).1:=by rw[g.κ,co.ok.own,co.ok.own];exact Yf _
theorem lQ{r:Ren}{a b:Nat}(g:Gd C r)(h:(C.κ (0,a)).1<=(C.κ (0,b)).1):(r.κ (0,a)).1<=(r.κ (0,b)).1:=by rw[g.κ];exact h
theorem ZQU{r:Ren}{a b:Nat}(g:Gd C r)(h:J0 C.κ [(a,b)]):(r.κ (0,a)).1<=(r.κ (0,b)).1/\True:=⟨lQ g h.1,trivial⟩
theorem ZLW{r:Ren}{a b:Nat}{t:List (Nat×Nat)}(g:Gd C r)(h:J0 C.κ ((a,b)::t)){c off m:Nat}:GN r (0,b) [.ref (0,a) c off m]:=by unfold GN;simp only[Aq,ren,J6,List.all_nil,J7,AV.low];have:=lQ g h.1;simpa using this
@[reducible] def vwl(q:Nat)(vs:List AV)(k:PT os β)(c:Nat.ble (q+1) os=true:=by kernel_rfl):PT os β:=
 ⟨k.a,λE=>M8 E.r (0,q)/\GN E.r (0,q) vs/\k.q E,k.m,λE=>GN E.E.r (0,q) vs/\k.n E,λE a y hm b=>⟨⟨rfl,by rw[E.g.no,E.g.κ];exact E.co.W q (Ym c)⟩,a.1,k.ok E a.2 y hm b⟩⟩
theorem Br{γ:Type}{M:Option γ}{kk:γ->Option β}{ss:List (Nat×AV)}{hs:List (Ad×Blk)}{f:FuncId}{os':Nat}{fr:List Nat}{lv:List (Nat×Nat)}{ys:List AV}{bi:List Blk}{e0:γ->AV}{bs:γ->List Blk}(co:COx C os fx)(hm:M.bind kk=some y)(K:KG P f os' fr lv ys bi M e0 bs)
  (a b:List (Ad×Blk)) (e:γ->AV) (Av:γ->List (Ad×Blk)) (fl:List Ad)
  (h:∀z,kk z=some y->LO P n C c (k+1) (Ac (Ij (GB c k) (e z) (EM (Ir fr 0 a) ss)) (Av z++Ds ((Av z).map (·.1)) (Ir fr 0 a) fl hs)) Q)
  (m:∀r,Gd C r->J0 (ED (C.l+1) ((a.map (·.1)).map r.κ)) lv:=by
   intro r g
   first
   |exact⟨ZIs ‹_› g _ _,trivial⟩
   |exact ZQU g (by assumption)
   |exact trivial)
  (xs:List AV:=[]++(H4 c k).map (ev (AB ss))++[])
  (s:∀z,Ga C (Av z):=by intro z;repeat(first|exact trivial|refine⟨COx.W ‹_› _ (by decide),?_⟩))
  (j:Ll (AF hs) fl:=by repeat(first|exact trivial|refine⟨FI _ _,?_⟩))
  (i:∀r H,BE (rC C r a (λ_=>.top) H) r 0 bi a:=by
   intro r H
   repeat(first|exact trivial|refine⟨λ_=>⟨rfl,Hg (FI _ _) aC⟩,aC,?_⟩|refine⟨λ_=>⟨rfl,Hg K7 aC⟩,aC,?_⟩|refine⟨λ_=>⟨rfl,aC⟩,aC,?_⟩))
  (d:∀z r H δ,BE (rF (C.l+1) ((a.map (·.1)).map r.κ) (FW r a) fr δ H) (rB r fr δ a) 0 (bs z) (Av z):=by
   intro z r H δ
   repeat(first|exact trivial|refine⟨λ_=>⟨rfl,Hg (FI _ _) aC⟩,aC,?_⟩|refine⟨λ_=>⟨rfl,Hg K7 aC⟩,aC,?_⟩|refine⟨λ_=>⟨rfl,aC⟩,aC,?_⟩))
  (hx:∀r H,Aq (rC C r a (λ_=>.top) H) ys=Aq r xs:=by intro r H;kernel_rfl) (t:[]++(H4 c k).map (ev (AB ss))++[]=xs:=by kernel_rfl) (u:∀z r H δ,ren (rF (C.l+1) ((a.map (·.1)).map r.κ) (FW r a) fr δ H) (e0 z)=ren (rB r fr δ a) (e z):=by intro z r H δ;kernel_rfl)
  (q:H2 c k=some (GB c k,callF c k,H4 c k):=by kernel_rfl) (E:ev (AB ss) (callF c k)=.fn (.func f) [] []:=by kernel_rfl)
  (l:(((a++b).map (·.1)).map λk=>(k,AF hs k))=a++b:=by kernel_rfl) (o:∀z,(bs z).all Blk.live=true:=by intro z;kernel_rfl) (he:∀z,a.map (·.1)=(Av z).map (·.1):=by intro z;rfl)
  (F:((a.map (·.1)).all (BO os)&&HZ (a.map (·.1))&&Nat.beq a.length os')=true:=by kernel_rfl)
  (p:∀z,(Ea os (Av z)&&NN (Ir fr 0 a) (Av z)&&OB (Ir fr 0 a) fx&&Ja hs&&OQ n (GB c k)&&((a++b).map (·.1)).all (BO os))=true:=by intro z;kernel_rfl):LO P n C c k (Ac ss hs) Q:=by
 obtain⟨z,B,D⟩:=bind_some hm;exact xd co.ok co.O co.F f [] [] xs q E t _ (a++b) l (e z) (Av z) (Ir fr 0 a) fl (p z) (s z) j (λr v w x A=>ZxV K B co ⟨v,w,x,A⟩ a b (Av z) (m r ⟨v,w,x,A⟩) (λH=>i r H) (λH δ=>d z r H δ) (o z) (λH=>hx r H) (λH δ=>u z r H δ) F (he z)) (h z D)
def tG(m:Nat):Code->Bool
 |.region _ ops true=>Nat.beq ops.toList.length (m+1)&&Zy ops.toList&&(Jd m ops.toList).all (λo=>Dq o||Cd o)&&MZ ops.toList 0 ops.toList&&(Km m).all (λi=>R4 ops.toList i ops.toList.length m)
 |_=>false
theorem F0(co:COx C os fx)(hT:Bi P T)(A:P.follows .mixedOrders=true)(m:Nat)(v:PT os β)(lf:Lf)(hv:v.m=some y)(Z:HL L y)(hn:∀r (g:Gd C r),v.n ⟨⟨C.l,r,λ_ τ'=>LO P n C c m τ' Q,λ_ _=>False⟩,L,C,_,co,g,rfl⟩)
  (hq:∀l r Q h,Bg r os v.a τ (λτ a=>H8 P T l n r ((Cf c).toList.map (·.dst)) (Jd m (Cf c).toList) [] a (λτ' env f=>Bg r os f (Eh env τ') (λτ _=>EO fx lf τ (Q .normal))) τ)=v.q ⟨l,r,Q,h⟩:=by intro l r Q P;kernel_rfl)
  (t:tG m c=true:=by kernel_rfl):LW P n C c τ Q:=by
 cases c with
 |region id ops N=>
  cases N with
  |false=>cases t
  |true=>
   obtain⟨Lf,rfl⟩:∃l:List Oper,ops=l.toArray:=⟨ops.toList,by simp⟩;simp only[tG,Yc,Wt]at t;obtain⟨⟨⟨⟨G,H⟩,E⟩,I⟩,J⟩:=t;have G:=Yd G;have s:∃o,Lf.drop m=[o]:=List.length_eq_one_iff.1 (by rw[DS];omega);obtain⟨o,s⟩:=s;have b:Lf=Lf.take m++[o]:=(by rw[<-s,IB]);have z:(Lf.take m).length=m:=(by rw[Yz];omega);intro γ σ hg Y a w hR;have q:=v.ok _ (hn (C.r γ) ⟨rfl,rfl,rfl,rfl⟩) y hv Z;rw[<-hq]at q;generalize v.a=va at q;have ok:=co.ok;rw[<-co.O,<-co.F]at q;obtain⟨τ₁,M,K,F,u,D⟩:=Cv (n:=n) ok va q Y;simp only[Cf,Wt,List.toList_toArray]at F H E I J;have k:=ZuP (P:=P) (n:=n) (B:=C.B) (id:=id) (L:=Lf.take m) (o:=o) (σ:=K) (a:=a) (w:=w) (QQ:=λe f w'=>∃p,Is n C (Q e) p/\R C.l n C.B p f w')
    (X:=λp=>∃τ' d f,Bg (C.r γ) C.outs f (Eh d τ') (λτ _=>EO C.fx lf τ (λτ'=>LO P n C (.region id Lf.toArray true) m τ' Q))/\RG (C.r γ) C.l C.outs d τ' p) A (we (by rw[<-b];exact H)) E (by rw[<-b];exact I)
    (λi hi=>by rw[<-b,z];exact fX _ _ (Yv.1 J i (Ww ae))) (by rw[<-b];exact Oh (ok.ren γ) hT _ [] M τ₁ K E F u) (λp j w' x ⟨τ',d,f,f1,f2⟩=>?_) (D _ _ hR)
   ·rw[<-b]at k;exact k
   ·obtain⟨σ₂,V,W⟩:=Q6 (n:=n) f2;obtain⟨τ₃,a₃,σ₃,O,S,U⟩:=Cv (n:=n) ok f f1 V;obtain⟨γ',τ₄,σ₄,j0,j1,j2,j3⟩:=IM (n:=n) ok O hg S;have:=j1 γ' σ₄ j w' j0 j2 (j3 _ _ (U _ _ (W _ _ x)));simp only[Cf,List.toList_toArray,s]at this;rw[<-b];exact this
 |_=>cases t
end
end Go.Eng
