import Derived.Test.YtpljiekkimkceaaDoorUa09
import Derived.OrdersHeld
import Derived.Test.YtpljiekkimkceaaDoorProg
import Derived.Test.YtpljiekkimkceaaDoorUa07
import Derived.Shelf.Sort.Plain
import Derived.Shelf.Slices.In.SortNone
import Derived.Shelf.Slices.CompactS
import Derived.RangeFuncNested
import Derived.RangeFuncBound
import Derived.RangeFuncCalls
import Derived.RangeFuncLeaves
import Derived.RangeFuncBox
import Derived.Shelf.Abstract
import Derived.Shelf.RegionOpen
import Derived.WalkKit
import Derived.OwnWalkIn
import Derived.TacticsInMore
import Derived.LoopNIn
import Derived.LoopIn
import Derived.Maps.AppendAt
import Derived.Test.YtpljiekkimkceaaDoorUa00
namespace Go.Eng
set_option linter.all false
open Go Go.RowKit
def pb:Value→Option Nat
 |.pointer (some a)=>some a.block
 |_=>none
def Dg(w:World)(b:Nat):Prop:=∃C e f,w.heap[b]?=some (.cells C e f)
section
variable {P:Program} {α β:Type}
theorem T5{v:Value}{a:Addr}{w b:World}(h:(Instr.sureAddr v).run P w=.ok a b):v=.pointer (some a)∧b=w:=by
 unfold Instr.sureAddr at h
 split at h
 ·cases h;exact⟨rfl,rfl⟩
 ·cases h
def Lo(b:Nat)(P:Program)(s:Sem α):Prop:=∀w r c a,s.run P w=.ok r c→Dg w b→a.heap[b]?=w.heap[b]?→s.run P a=.ok r a
theorem Vp.lo{b:Nat}{s:Sem α}(h:Vp P s):Lo b P s:=fun w r a c e _ _=>(h w r a e).2 c
theorem Lo.bind{b:Nat}{s:Sem α}{f:α→Sem β}(g:Rd P s)(h:Lo b P s)(k:∀a,Lo b P (f a)):Lo b P (s>>=f):=fun w r i j e c d=>by
 rw[Sem.run_bind]at e⊢
 cases hs:s.run P w with
 |halt x w'=>rw[hs]at e;cases e
 |ok a w'=>
  rw[hs]at e
  have:=g w a w' hs
  subst this
  rw[h _ _ _ _ hs c d]
  exact k a _ _ _ _ e c d
def So(b:Nat)(P:Program)(s:Sem α):Prop:=∀w r a,s.run P w=.ok r a→Dg w b→Dg a b∧∀k,k≠b→a.heap[k]?=w.heap[k]?
theorem Rd.so{b:Nat}{s:Sem α}(h:Rd P s):So b P s:=fun w r c e a=>by rw[h w r c e];exact⟨a,fun _ _=>rfl⟩
theorem So.bind{b:Nat}{s:Sem α}{f:α→Sem β}(h:So b P s)(k:∀a,So b P (f a)):So b P (s>>=f):=fun w r l e d=>by
 rw[Sem.run_bind]at e
 cases hs:s.run P w with
 |halt x w'=>rw[hs]at e;cases e
 |ok a w'=>
  rw[hs]at e
  obtain⟨c,g⟩:=h _ _ _ hs d
  obtain⟨i,j⟩:=k a _ _ _ e c
  grind
theorem Tn(a:Addr)(v:Value):So a.block P (store a v):=fun w r b e ⟨C,t,f,c⟩=>by
 unfold store at e
 have key:∀b,b=w.setCell a v→Dg b a.block∧∀k,k≠a.block→b.heap[k]?=w.heap[k]?:=fun b e=>by
  subst e
  unfold World.setCell
  constructor
  ·refine⟨(if a.spot.isSome then C else C.setIfInBounds a.off v),t,f,?_⟩
   show(w.heap.modify a.block _)[a.block]?=_
   rw[Hz,c]
   simp
  ·intro k g
   show(w.heap.modify a.block _)[k]?=_
   rw[Hz]
   simp[Ne.symm g]
 cases v<;>simp only[Sem.run]at e<;>first
  |(cases e;done)
  |(cases d:w.cell? a with
    |some x=>
     rw[d]at e
     simp only at e
     split at e
     ·cases e
     ·cases e;exact key _ rfl
    |none=>
     rw[d]at e
     unfold World.farStore at e
     rw[c]at e
     cases e)
theorem Mx(a:Addr):∀(vs:List Value) (i:Nat),So a.block P (storeCells a vs i)
 |[],i=>(Vp.pure _).rd.so
 |v::r,i=>by
  unfold storeCells
  refine So.bind ?_ fun _=>Mx a r (i+1)
  have:=Tn (P:=P) (a.add i) v
  rwa [block_add]at this
theorem Rc(t:TypeId)(a:Addr)(v:Value):So a.block P (storeVar t a v):=by
 unfold storeVar
 refine(Dj t).rd.so.bind fun n=>?_
 by_cases h:v.cells.size≠n
 ·rw[Yt h]
  intro w r b e
  cases e
 ·rw[Yy h]
  exact Mx a _ 0
theorem Uq{ρ:Operand→Value}{o:Oper}{t:TypeId}{x y:Operand}{w c:World}{r:Next}(h:o.op=.store t x y)(e:(execOp ρ o).run P w=.ok r c):
  r=.skip∧∃b,pb (ρ x)=some b∧(Dg w b→Dg c b∧∀k,k≠b→c.heap[k]?=w.heap[k]?):=by
 obtain⟨d,op,type,pos,after,guard⟩:=o
 cases h
 change ((Instr.storeAt t (ρ x) (ρ y))>>=fun _=>(pure Next.skip:Sem Next)).run P w=_ at e
 generalize ρ x=q at e⊢
 generalize ρ y=v at e
 have f:r=.skip:=by
  rw[Sem.run_bind]at e
  cases hs:(Instr.storeAt t q v).run P w with
  |halt _ _=>rw[hs]at e;cases e
  |ok _ _=>rw[hs]at e;cases e;rfl
 refine⟨f,?_⟩
 have:∃a,q=.pointer (some a):=by
  cases hs:(Instr.sureAddr q).run P w with
  |halt _ _=>unfold Instr.storeAt at e;simp only[Sem.run_bind,hs]at e;cases e
  |ok a w'=>exact⟨a,(T5 hs).1⟩
 obtain⟨a,rfl⟩:=this
 exact⟨a.block,rfl,fun g=>So.bind (Rc t a v) (fun _=>(Vp.pure _).rd.so) _ _ _ e g⟩
end
def Ft(z:Nat):List (Nat×Nat)→Option Nat
 |[]=>none
 |(d,r)::l=>match Nat.beq d z with|true=>some r|false=>Ft z l
theorem HS{z r:Nat}:∀{l:List (Nat×Nat)},Ft z l=some r→(z,r)∈l
 |(d,q)::l,h=>by
  unfold Ft at h
  split at h
  ·rename_i e;cases h;rw[Ya e];exact YC ..
  ·exact Yw _ (HS h)
def GS:Operand→Option Nat
 |.tmp z=>some z
 |_=>none
def Fq(P:Program)(o:Oper):Option Nat:=match EM P o with
 |true=>(match o.op with
  |.fieldAddr _ x _=>GS x
  |.move x=>GS x
  |.nilCheck x=>GS x
  |_=>none)
 |false=>none
def H9(P:Program)(env:List (Nat×Nat))(o:Oper):List (Nat×Nat):=match o.dst with
 |none=>env
 |some d=>(match Fq P o with|some z=>(match Ft z env with|some r=>[(d,r)]|none=>[])|none=>[])++env.filter fun p=>!Nat.beq p.1 d
def It(P:Program)(env:List (Nat×Nat))(o:Oper):Bool:=F0 P o||IR o||match o.op with
 |.store _ (.tmp y) _=>(Ft y env).isSome
 |_=>false
def J(β:Nat→Nat)(env:List (Nat×Nat))(a:Act)(w:World):Prop:=∀p∈env,∀b,pb (a.eval (.tmp p.1))=some b→b=β p.2∧Dg w b
def Oo:Next→Option Value
 |.value v=>some v
 |.skip=>some undef
 |_=>none
section
variable {P:Program} {β:Nat→Nat} {env:List (Nat×Nat)} {a:Act} {w w':World} {o:Oper} {n:Next}
theorem NA(h:It P env o=true)(l:J β env a w)(e:(execOp a.eval o).run P w=.ok n w'):(∃u,Oo n=some u)∧∀b,Dg w b→Dg w' b:=by
 unfold It at h
 rw[YE]at h
 rcases h with h|h
 ·obtain⟨c,d⟩:=UL (ρ:=a.eval) h
  obtain⟨v,rfl⟩:=d _ _ _ e
  exact⟨⟨v,rfl⟩,fun b ⟨C,t,f,g⟩=>⟨C,t,f,c _ _ _ e _ _ g⟩⟩
 ·split at h
  ·rename_i t y v p
   obtain⟨rfl,i,c,d⟩:=Uq p e
   obtain⟨r,q⟩:=YP.1 h
   obtain⟨_,j⟩:=l _ (HS q) _ c
   obtain⟨s,k⟩:=d j
   refine⟨⟨_,rfl⟩,fun b ⟨C,t,f,g⟩=>?_⟩
   by_cases m:b=i
   ·grind
   ·exact⟨C,t,f,(k b m).trans g⟩
  ·cases h
theorem Kq{x:Operand}{z:Nat}(h:GS x=some z):x=.tmp z:=by
 cases x<;>simp only[GS]at h<;>first|(cases h;done)|skip
 grind
theorem OQ{z:Nat}{b:Nat}{v:Value}(hs:Fq P o=some z)(e:(execOp a.eval o).run P w=.ok (.value v) w')(c:pb v=some b):pb (a.eval (.tmp z))=some b:=by
 unfold Fq at hs
 cases d:EM P o with
 |false=>rw[d]at hs;cases hs
 |true=>
  rw[d]at hs
  obtain⟨l,op,type,pos,after,guard⟩:=o
  cases op<;>simp only at hs<;>first|(cases hs;done)|skip
  case move x=>rw[←Kq hs];cases e;exact c
  case nilCheck x=>
   rw[←Kq hs]
   have s:∀w r k,(runtimePanic .nilDeref:Sem Next).run P w≠.ok r k:=fun w r k e=>by
    unfold runtimePanic at e
    simp only[Sem.run_bind,run_program,Result.andThen_ok]at e
    repeat(first|(cases e;done)|split at e|(simp[goPanic,stuck,unsupported,Sem.run]at e;done))
   simp only[execOp]at e
   split at e
   ·grind
   ·grind
   ·grind
   ·split at e
    ·grind
    ·simp only[Sem.run_bind,run_program,Result.andThen_ok]at e
     cases hs:(nilAhead _ _ _ _).run P w with
     |halt x w'=>rw[hs]at e;cases e
     |ok q w'=>
      rw[hs]at e
      simp only[Result.andThen_ok]at e
      split at e
      ·cases e
      ·cases e;first|exact c|cases c
    ·cases e;first|exact c|cases c
   ·cases e;first|exact c|cases c
  case fieldAddr t x i=>
   rw[←Kq hs]
   simp only[EM]at d
   split at d
   ·rename_i p h
    split at d
    ·rename_i f g
     have j:P.cellsOf f.type≠0:=fun m=>by rw[m]at d;cases d
     have run:∀(ad:Addr) (w:World),(Instr.fieldAt t (.pointer (some ad)) i).run P w=.ok (.pointer (some (ad.add f.offset))) w:=fun ad w=>by
      simp[Instr.fieldAt,run_underlying h,g,Instr.sureAddr,fieldPlace,BU j,j]
     change ((Instr.fieldAt t (a.eval x) i)>>=fun y=>(pure (Next.value y):Sem Next)).run P w=_ at e
     generalize a.eval x=q at e⊢
     by_cases n:∃ad,q=.pointer (some ad)
     ·obtain⟨ad,rfl⟩:=n
      rw[Sem.run_bind,run]at e
      cases e
      simp only[pb,block_add]at c
      exact c
     ·exfalso
      have hs:Instr.sureAddr q=.halt (.stuck "an address expected (no nilCheck in front?)"):=by
       unfold Instr.sureAddr
       split
       ·grind
       ·rfl
      simp only[Instr.fieldAt,Sem.run_bind,run_underlying h,Result.andThen_ok,g,hs]at e
      cases e
    grind
   ·cases d
theorem J.put(g:J β env a w)(y:It P env o=true)(e:(execOp a.eval o).run P w=.ok n w'){u:Value}(A:Oo n=some u):J β (H9 P env o) (a.put o.dst u) w':=by
 have l:=(NA y g e).2
 unfold H9
 have ev:∀z:Nat,(∀d,o.dst=some d→z≠d)→(a.put o.dst u).eval (.tmp z)=a.eval (.tmp z):=fun z j=>Act.eval_put fun d i C=>j d i (by cases C;rfl)
 cases i:o.dst with
 |none=>
  intro p c b f
  rw[←i,ev _ (fun d h=>by rw[i]at h;cases h)]at f
  exact⟨(g p c b f).1,l _ (g p c b f).2⟩
 |some d=>
  intro p c b f
  rw[Jg]at c
  rcases c with c|c
  ·split at c
   ·rename_i z j
    split at c
    ·rename_i r x
     obtain rfl:=Jt.1 c
     simp only at f⊢
     have q:n=.value u:=by
      have:F0 P o=true:=by
       unfold Fq at j
       unfold F0
       cases B:EM P o with
       |true=>rfl
       |false=>rw[B]at j;cases j
      obtain⟨v,rfl⟩:=(KU (ρ:=a.eval) this).2 _ _ _ e
      cases A
      rfl
     subst q
     have k:pb u=some b:=by
      have:(a.put (some d) u).eval (.tmp d)=u∨(a.put (some d) u).eval (.tmp d)=undef:=by
       simp only[Act.eval,Act.put,Yv,Y7]
       split
       ·rename_i h
        split<;>simp_all
       ·simp_all
      rcases this with h|h
      ·rw[h]at f;exact f
      ·rw[h]at f;cases f
     obtain⟨s,t⟩:=g _ (HS x) _ (OQ j e k)
     exact⟨s,l _ t⟩
    ·cases c
   ·cases c
  ·rw[Jf]at c
   have m:p.1≠d:=fun he=>by have:=c.2;rw[he,JC]at this;cases this
   rw[←i,ev _ (fun d' h=>by rw[i]at h;cases h;exact m)]at f
   exact⟨(g p c.1 b f).1,l _ (g p c.1 b f).2⟩
def OK(env:List (Nat×Nat))(o:Oper):Bool:=match o.dst with
 |none=>true
 |some d=>env.all fun p=>!Nat.beq p.1 d
theorem J.keep(c:J β env a w)(k:It P env o=true)(g:OK env o=true)(e:(execOp a.eval o).run P w=.ok n w'){u:Value}:J β env (a.put o.dst u) w':=by
 have i:=(NA k c e).2
 intro p h b f
 have:(a.put o.dst u).eval (.tmp p.1)=a.eval (.tmp p.1):=Act.eval_put fun d j l=>by
  cases l
  unfold OK at g
  rw[j]at g
  have:=Yo.1 g p h
  rw[JC]at this
  cases this
 rw[this]at f
 exact⟨(c p h b f).1,i _ (c p h b f).2⟩
end
end Go.Eng
namespace Go.Eng
set_option linter.all false
open Go Go.RowKit
structure KCN (P:Program) (f:FuncId) (xs:List AV) {γ:Type} (M:Option (List γ)) (e:γ→AV):Prop where
 k:∀l H ys,M=some ys→ZaR P f l xs H (fun z H'=>(∃y∈ys,z=e y)∧H'=H)
 x:∀r,Ab r xs=xs
 e:∀r y,ren r (e y)=e y
theorem KCN.one{P:Program}{f:FuncId}{xs:List AV}{γ:Type}{M:Option (List γ)}{e:γ→AV}(K:KCN P f xs M e)(N:Option γ)(h:∀y,N=some y→∃ys,M=some ys∧∀z∈ys,z=y):KC P f xs N e:=
 ⟨fun l H y hy=>by
  obtain⟨ys,a,b⟩:=h y hy
  exact(K.k l H ys a).mono fun z j ⟨⟨i,c,d⟩,g⟩=>⟨by rw[d,b i c],g⟩,K.x,K.e⟩
structure KON (P:Program) (f:FuncId) (os:Nat) (ys:List AV) (bi:List Blk) (Θ:Cl) {γ:Type} (M:Option (List γ)) (e:γ→AV) (bs:γ→List Blk):Prop where
 k:∀l H (ks:List Aa) (gs:List Nat) (θ:Nat→AV),ks.length=os→DX l ks→ks.Nodup→Ej H (A0 l ks gs θ H) (BO 0 bi) 0 ks→Θ (fun k=>k∈ks) l H θ→∀zs,M=some zs→
  ZaR P f l (Ab (A0 l ks gs θ H) ys) H (fun z H'=>∃y∈zs,z=ren (A0 l ks gs θ H) (e y)∧H'=BC H ks (Bh (A0 l ks gs θ H) 0 (bs y)))
inductive Pl where
 |nil
 |fst (i:Nat) (r:Pl)
 |two (i j:Nat) (a b:Pl)
 |opt (hs:List Nat) (i:Nat) (r s:Pl)
def Pl.len:Pl→Nat
 |.nil=>0
 |.fst _ r=>r.len+1
 |.two _ _ a _=>a.len+1
 |.opt _ _ r _=>r.len+1
def B7(P:Program)(ops:Array Oper)(Q:Exit→Act→World→Prop)(o:Oper)(a:Act)(w:World)(N:Act→World→Prop):Prop:=if Region.wanted o (yielded ops a.tmps)=true then o.wp P a w N Q else N (a.put o.dst Go.undef) w
def Lu(o:Oper)(a b:Act):Prop:=∃u,∀x,b.eval x=(a.put o.dst u).eval x
theorem Vn{P:Program}{o:Oper}{a:Act}{w:World}{N:Act→World→Prop}{Q:Exit→Act→World→Prop}(h:o.wp P a w N Q):o.wp P a w (fun g w'=>N g w'∧Lu o a g∧∀v b,(execOp a.eval o).run P w=.ok (.value v) b→g=a.put o.dst v) Q:=by
 unfold Oper.wp at*
 cases j:(execOp a.eval o).run P w with
 |ok n w'=>
  rw[j]at h
  cases n<;>simp only[Oper.upon]at h⊢
  case value u=>exact⟨h,⟨u,fun _=>rfl⟩,fun v b e=>by cases e;rfl⟩
  case skip=>exact⟨h,⟨_,fun _=>rfl⟩,fun v b e=>by cases e⟩
  case defer d=>exact⟨h,⟨Go.undef,fun x=>by cases o.dst<;>rfl⟩,fun v b e=>by cases e⟩
  case enter f args=>
   refine Calls.mono h fun e i he=>?_
   cases e with
   |returned u=>exact⟨he,⟨u,fun _=>rfl⟩,fun v b e=>by cases e⟩
   |panicked c=>exact he
   |outgrown=>exact he
  case row row args=>exact Rows.mono h fun u i he=>⟨he,⟨u,fun _=>rfl⟩,fun v b e=>by cases e⟩
 |halt x w'=>
  rw[j]at h
  cases x<;>simp only[Oper.upon]at h⊢
  grind
theorem B7.mono{P:Program}{ops:Array Oper}{Q:Exit→Act→World→Prop}{o:Oper}{a:Act}{w:World}{N b:Act→World→Prop}(h:∀d w',N d w'→b d w')(s:B7 P ops Q o a w N):B7 P ops Q o a w b:=by
 unfold B7 at*
 split
 ·rename_i c
  rw[Yt c]at s
  exact Oper.wp_mono h s
 ·rename_i c
  rw[Yy c]at s
  exact h _ _ s
theorem B7.un{P:Program}{ops:Array Oper}{Q:Exit→Act→World→Prop}{o:Oper}{a:Act}{w:World}{N:Act→World→Prop}(g:o.guard=none)(s:B7 P ops Q o a w N):o.wp P a w N Q:=by
 unfold B7 at s
 rw[Yt (by simp[Region.wanted,g])]at s
 exact s
theorem B7.put{P:Program}{ops:Array Oper}{Q:Exit→Act→World→Prop}{o:Oper}{a:Act}{w:World}{N:Act→World→Prop}(s:B7 P ops Q o a w N):B7 P ops Q o a w (fun b w'=>N b w'∧Lu o a b∧(o.guard=none→∀v d,(execOp a.eval o).run P w=.ok (.value v) d→b=a.put o.dst v)):=by
 unfold B7 at*
 split
 ·rename_i c
  rw[Yt c]at s
  exact Oper.wp_mono (fun b w' h=>⟨h.1,h.2.1,fun _=>h.2.2⟩) (Vn s)
 ·rename_i c
  rw[Yy c]at s
  exact⟨s,⟨_,fun _=>rfl⟩,fun g=>absurd (by simp[Region.wanted,g]) c⟩
theorem B7.op{P:Program}{ops:Array Oper}{Q:Exit→Act→World→Prop}{o:Oper}{a:Act}{w:World}{N:Act→World→Prop}{k:Nat}(b:ops[k]?=some o)(s:B7 P ops Q o a w N):wpOp P ops Q k N a w:=by
 unfold wpOp
 simp only[b]
 unfold B7 at s
 split
 ·rename_i c
  rw[Yt c]at s
  exact .inl s
 ·rename_i c
  rw[Yy c]at s
  exact s
def JF(β:Nat→Nat)(c:List (Nat×Nat))(a:Act):Prop:=∀p∈c,∀b,pb (a.eval (.tmp p.1))=some b→b=β p.2
theorem eval_put(a:Act)(d j:Nat)(u:Value)(h:j≠d):(a.put (some d) u).eval (.tmp j)=a.eval (.tmp j):=by
 simp only[Act.put,Act.eval,Yv,Y7]
 grind
theorem QY(a:Act)(d:Nat)(u:Value):(a.put (some d) u).eval (.tmp d)=u∨(a.put (some d) u).eval (.tmp d)=Go.undef:=by
 simp only[Act.put,Act.eval,Yv,Y7]
 grind
theorem JF.put{P:Program}{β:Nat→Nat}{f:List (Nat×Nat)}{a j:Act}{o:Oper}{w:World}(k:JF β f a)(h:Lu o a j)(y:∀z,Fq P o=some z→∃v q,(execOp a.eval o).run P w=.ok (.value v) q∧j=a.put o.dst v):JF β (H9 P f o) j:=by
 intro p c b g
 unfold H9 at c
 cases i:o.dst with
 |none=>
  rw[i]at c
  obtain⟨u,m⟩:=h
  rw[m,i]at g
  exact k p c b g
 |some d=>
  rw[i]at c
  rcases Jg.1 c with c|c
  ·cases hs:Fq P o with
   |none=>rw[hs]at c;cases c
   |some z=>
    rw[hs]at c
    dsimp only at c
    cases he:Ft z f with
    |none=>rw[he]at c;cases c
    |some r=>
     rw[he]at c
     rcases Jt.1 c with rfl
     obtain⟨v,q,s,t⟩:=y z hs
     rw[t,i]at g
     have Ad:pb v=some b:=by
      rcases QY a d v with e|e
      ·grind
      ·rw[e]at g;cases g
     exact k _ (HS he) b (OQ hs s Ad)
  ·obtain⟨x,n⟩:=Jf.1 c
   obtain⟨u,m⟩:=h
   have l:p.1≠d:=fun e=>by rw[e]at n;simp at n
   rw[m,i,eval_put a d p.1 u l]at g
   exact k p x b g
def Hf(r:Ren):List (Aa×Blk)→Prop
 |[]=>True
 |(k,_)::t=>match Nat.beq k.1 1 with|true=>Hf r t|false=>Ja r k∧Hf r t
section
variable {P:Program} {T:Nat→Option TI} {n:Nat} {C:Cx} {τ:St} {Q:Exit→St→Prop} {os:Nat} {c:Code} {β:Type} {L:β→Prop} {y:β}
theorem K8{C:Cx}{r:Ren}(g:Gd C r):∀{Ad:List (Aa×Blk)},Cm os Ad=true→Cy C Ad→Hf r Ad
 |[],_,_=>trivial
 |(k,b)::t,c,h=>by
  simp only[Cm,Ye]at c
  obtain⟨⟨⟨e,i⟩,j⟩,d⟩:=c
  unfold Hf
  unfold Cy at h
  rcases DP e with a|⟨a,f⟩
  ·rw[a]at h⊢;exact K8 g d h
  ·rw[a]at h⊢;exact⟨⟨a,by rw[g.no,g.κ];exact h.1⟩,K8 g d h.2⟩
@[reducible] def ch{γ:Type}[Inhabited γ](P:Program)(f:FuncId)(xs:List AV)(ks:List Aa)(d:List (Aa×Blk))(M:Option γ)(e:γ→AV)(Ad:γ→List (Aa×Blk))(k:γ→PT os β)(b:∀z,Cm os (Ad z)=true:=by intro z;kernel_rfl):PT os β:=
 ⟨.hard (e (M.getD default)) ks (Ad (M.getD default)) [] (k (M.getD default)).a,fun E=>EA P E.l E.r f xs d (e (M.getD default)) (Ad (M.getD default)) []∧Hf E.r (Ad (M.getD default))∧(k (M.getD default)).q E,M.bind fun y=>(k y).m,
 fun E=>(∀y,M=some y→EA P E.C.l E.E.r f xs d (e y) (Ad y) [])∧(∀y,Cy E.C (Ad y))∧∀y,(k y).n E,fun E a y hm i=>by
  obtain⟨x,c,g⟩:=bind_some hm
  have h:M.getD default=x:=by rw[c];rfl
  rw[h]
  exact⟨by rw[E.hl];exact a.1 x c,K8 E.g (b x) (a.2.1 x),(k x).ok E (a.2.2 x) y g i⟩⟩
end
def gF(a fr:List Nat)(δ:Nat→Nat):Aa→Nat
 |(0,i)=>match fr.any (Nat.beq i)with|true=>δ i|false=>DD a (0,i)
 |(_+1,_)=>0
def rF(l:Nat)(ks:List Aa)(a fr:List Nat)(δ:Nat→Nat)(H:Hp):Ren:=⟨Cc l ks,gF a fr δ,fun _=>.top,H,fun k=>k∈ks⟩
def Mb(κ:Aa→Aa):List (Nat×Nat)→Prop
 |[]=>True
 |(a,b)::t=>(κ (0,a)).1≤(κ (0,b)).1∧Mb κ t
structure KG (P:Program) (f:FuncId) (os:Nat) (fr:List Nat) (lv:List (Nat×Nat)) (ys:List AV) (bi:List Blk) {γ:Type} (M:Option γ) (e:γ→AV) (bs:γ→List Blk):Prop where
 k:∀l H (ks:List Aa) (gs:List Nat),ks.length=os→DX l ks→ks.Nodup→Ej H (A0 l ks gs (fun _=>.top) H) (BO 0 bi) 0 ks→Mb (Cc l ks) lv→∀y,M=some y→
  ZaR P f l (Ab (A0 l ks gs (fun _=>.top) H) ys) H (fun z H'=>∃δ,z=ren (rF l ks gs fr δ H) (e y)∧H'=BC H ks (Bh (rF l ks gs fr δ H) 0 (bs y)))
section
variable {P:Program} {l l':Nat} {H:Hp} {m:Mu} {S:Nat→Prop} {w:World}
inductive Vw (H:Hp) (l:Nat):AV→D→Prop
 |d (x:D):Vw H l (.d x) x
 |e0:Vw H l .e0 (.list [])
 |ref (k:Aa) (g n:Nat) (es:List (List D)) (hk:k.1≤l) (hg:(H k).g=g) (hn:es.length=n) (hl:(H k).live=true) (hz:∀e∈es,e.length=(H k).sz) (hp:(H k).sz≠0) (hc:(H k).cells.length=n*(H k).sz)
   (hr:∀(i:Nat) (x:AV) (d:D),(H k).cells[i]?=some x→es.flatten[i]?=some d→Vw H l x d):Vw H l (.ref k g 0 n) (.list es)
 |mp (k:Aa) (g:Nat) (a:Bool) (es:List (List D)) (hk:k.1≤l) (hg:(H k).g=g) (hl:(H k).live=true) (he:(H k).e=.m a es):Vw H l (.mp k g) (.map a es)
inductive Vx (H:Hp) (l:Nat):AV→AV→Prop
 |d (x:AV) (d:D) (h:Vw H l x d):Vx H l x (.d d)
 |ptr (k:Aa) (g:Nat) (ds:List D) (hk:k.1≤l) (hg:(H k).g=g) (hl:(H k).live=true) (hne:ds≠[]) (hc:(H k).cells.length=ds.length) (hr:∀(i:Nat) (x:AV) (d:D),(H k).cells[i]?=some x→ds[i]?=some d→Vw H l x d):Vx H l (.ptr k g 0) (.iptr ds 0)
 |fn (f:Fn) (xs ys:List AV) (hn:xs.length=ys.length) (h:∀(i:Nat) (x y:AV),xs[i]?=some x→ys[i]?=some y→Vx H l x y):Vx H l (.fn f [] xs) (.fn f [] ys)
def F7(H:Hp)(l:Nat):List AV→List AV→Prop
 |[],[]=>True
 |x::xs,y::ys=>Vx H l x y∧F7 H l xs ys
 |_,_=>False
theorem F7.at{H:Hp}{l:Nat}:∀{xs ys:List AV},F7 H l xs ys→xs.length=ys.length∧∀(i:Nat) (x y:AV),xs[i]?=some x→ys[i]?=some y→Vx H l x y
 |[],[],_=>⟨rfl,fun i x y h=>by simp at h⟩
 |x::xs,y::ys,⟨f,e⟩=>⟨by simp[(F7.at e).1],fun i a b c d=>by
  cases i with
  |zero=>simp at c d;subst c;subst d;exact f
  |succ i=>simp at c d;exact(F7.at e).2 i a b c d⟩
 |[],_::_,h=>h.elim
 |_::_,[],h=>h.elim
end
end Go.Eng
namespace Go.Proofs.YtpljiekkimkceaaDoor
open Go Go.Eng
def tS(e n:Nat):TI:={kin:=4,elm:=some (e,n),zer:=some [.e0],byt:=some 256 }
def tI(k:IntKind):TI:={kin:=3,zer:=some [.d (.int k 0)],ik:=some k,byt:=some 256 }
def tF:TI:={zer:=some [.p .nilFunc] }
def tQ:TI:={zer:=some [.p (.pointer none)] }
def tT(n:Nat)(f:List (Nat×Nat×Bool))(z:List AV)(e:Option (List Nat)):TI:={agg:=true,siz:=n,fld:=f,zer:=some z,eqt:=e,str:=true,byt:=some 256 }
def tl:List (Nat×TI):=[(3,tI .i64),(4,{kin:=1,zer:=some [.d (.bool false)],byt:=some 256 }),(5,tI .u8),(9,{kin:=2,zer:=some [.d (.str ⟨#[]⟩)],byt:=some 256 }),(21,tI .i32),(22,tS 32 5),(23,tS 37 5),(24,tS 42 3),(26,tT 3 [(0,1,false),(1,1,false),(2,1,false)] [.e0,.e0,.e0] none),(27,tS 70 16),(28,tS 86 2),(29,tS 9 1),(30,tS 81 8),(32,tT 5 [(0,1,false),(1,1,false),(2,1,false),(3,1,false),(4,1,false)] [.d (.str ⟨#[]⟩),.e0,.e0,.e0,.e0] none),(35,tS 72 3),(37,tT 5 [(0,1,false),(1,1,false),(2,1,false),(3,1,false),(4,1,false)] [.d (.str ⟨#[]⟩),.d (.bool false),.e0,.e0,.e0] none),(40,tS 74 5),(42,tT 3 [(0,1,false),(1,1,false),(2,1,false)] [.d (.str ⟨#[]⟩),.e0,.e0] none),(52,tF),(54,tF),(56,tF),(61,tT 2 [(0,1,false),(1,1,false)] [.d (.int .i64 0),.d (.str ⟨#[]⟩)] (some [3,2])),(62,tI .u64),(63,tS 68 7),(64,tS 153 14),(65,tS 155 8),(66,tS 157 4),(68,tT 7 [(0,1,false),(1,1,false),(2,1,false),(3,1,false),(4,1,false),(5,1,false),(6,1,false)] [.d (.int .i64 0),.d (.int .u64 0),.d (.str ⟨#[]⟩),.e0,.e0,.e0,.e0] none),(70,tT 16 [(0,1,false),(1,1,false),(2,1,false),(3,1,false),(4,2,true),(6,1,false),(7,1,false),(8,7,true),(15,1,false)] [.d (.int .i64 0),.d (.str ⟨#[]⟩),.d (.int .i64 0),.d (.int .i64 0),.d (.int .i64 0),.d (.str ⟨#[]⟩),.d (.str ⟨#[]⟩),.d (.bool false),.d (.int .i64 0),.d (.int .u64 0),.d (.str ⟨#[]⟩),.e0,.e0,.e0,.e0,.e0] none),(72,tT 3 [(0,1,false),(1,1,false),(2,1,false)] [.d (.str ⟨#[]⟩),.d (.int .i64 0),.e0] none),(74,tT 5 [(0,1,false),(1,1,false),(2,1,false),(3,1,false),(4,1,false)] [.d (.str ⟨#[]⟩),.d (.str ⟨#[]⟩),.d (.str ⟨#[]⟩),.d (.int .i64 0),.e0] none),(76,tF),(81,tT 8 [(0,1,false),(1,7,true)] [.d (.str ⟨#[]⟩),.d (.int .i64 0),.d (.int .u64 0),.d (.str ⟨#[]⟩),.e0,.e0,.e0,.e0] none),(82,tI .i64),(86,tT 2 [(0,1,false),(1,1,false)] [.d (.int .i64 0),.d (.int .i64 0)] (some [3,3])),(87,tF),(90,tI .u64),(95,tI .i64),(104,tI .u32),(108,tF),(110,tI .u64),(114,tQ),(120,tQ),(130,tF),(131,{agg:=true,siz:=256,byt:=some 4096 }),(133,tT 2 [(0,1,false),(1,1,false)] [.d (.int .u8 0),.d (.int .u8 0)] (some [3,3])),(134,{agg:=true,siz:=32,zer:=some [.d (.int .u8 0),.d (.int .u8 0),.d (.int .u8 0),.d (.int .u8 0),.d (.int .u8 0),.d (.int .u8 0),.d (.int .u8 0),.d (.int .u8 0),.d (.int .u8 0),.d (.int .u8 0),.d (.int .u8 0),.d (.int .u8 0),.d (.int .u8 0),.d (.int .u8 0),.d (.int .u8 0),.d (.int .u8 0),.d (.int .u8 0),.d (.int .u8 0),.d (.int .u8 0),.d (.int .u8 0),.d (.int .u8 0),.d (.int .u8 0),.d (.int .u8 0),.d (.int .u8 0),.d (.int .u8 0),.d (.int .u8 0),.d (.int .u8 0),.d (.int .u8 0),.d (.int .u8 0),.d (.int .u8 0),.d (.int .u8 0),.d (.int .u8 0)],byt:=some 256 }),(153,tT 14 [(0,7,true),(7,7,true)] [.d (.int .i64 0),.d (.int .u64 0),.d (.str ⟨#[]⟩),.e0,.e0,.e0,.e0,.d (.int .i64 0),.d (.int .u64 0),.d (.str ⟨#[]⟩),.e0,.e0,.e0,.e0] none),(155,tT 8 [(0,1,false),(1,7,true)] [.d (.int .i64 0),.d (.int .i64 0),.d (.int .u64 0),.d (.str ⟨#[]⟩),.e0,.e0,.e0,.e0] none),(157,tT 4 [(0,1,false),(1,1,false),(2,1,false),(3,1,false)] [.d (.int .i64 0),.d (.int .i64 0),.d (.int .u64 0),.d (.str ⟨#[]⟩)] (some [3,3,3,2]))]
theorem WH{t:TypeId}{i:TI}(e:BD Tryd.prog t=some i.agg:=by kernel_rfl)(f:Go.Eng.kin Tryd.prog t=i.kin:=by kernel_rfl)(g:(Tryd.prog).cellsOf t=i.siz:=by kernel_rfl)(h:i.elm=none∨Go.Eng.elm Tryd.prog t=i.elm:=by first|exact .inl rfl|exact .inr (by kernel_rfl))
  (k:((List.range i.fld.length).map fun j=>(Go.Eng.fld Tryd.prog t j,FD Tryd.prog t j))=i.fld.map (fun x=>(some (x.1,x.2.1),some x)):=by kernel_rfl) (l:i.zer=none∨Go.Eng.zer Tryd.prog t=i.zer:=by first|exact .inl rfl|exact .inr (by kernel_rfl)) (m:i.eqt=none∨FV Tryd.prog t=i.eqt:=by first|exact .inl rfl|exact .inr (by kernel_rfl)) (n:i.str=false∨FN Tryd.prog t=true:=by first|exact .inl rfl|exact .inr (by kernel_rfl))
  (o:i.ik=none∨(Tryd.prog).underlying t=i.ik.map .int:=by first|exact .inl rfl|exact .inr (by kernel_rfl)) (a:i.byt=none∨(∃b,(Tryd.prog).bytesOf t≤b∧(Tryd.prog).bytesOf t≠0∧i.byt=some b):=by first|exact .inl rfl|exact .inr ⟨256,by decide+kernel,by decide+kernel,rfl⟩|exact .inr ⟨4096,by decide+kernel,by decide+kernel,rfl⟩) (c:i.zer=none∨(i.zer.getD []).all AV.flat=true:=by first|exact .inl rfl|exact .inr rfl) (d:i.mp=none∨FK Tryd.prog t=i.mp:=by first|exact .inl rfl|exact .inr (by kernel_rfl)):TIok Tryd.prog t i:=.of e f g h k l m n o a c d
theorem Df:AG Tryd.prog (AC tl):=OS tl (by
 intro p a
 simp only[tl,YG,List.not_mem_nil,or_false]at a
 rcases a with rfl|rfl|rfl|rfl|rfl|rfl|rfl|rfl|rfl|rfl|rfl|rfl|rfl|rfl|rfl|rfl|rfl|rfl|rfl|rfl|rfl|rfl|rfl|rfl|rfl|rfl|rfl|rfl|rfl|rfl|rfl|rfl|rfl|rfl|rfl|rfl|rfl|rfl|rfl|rfl|rfl|rfl|rfl|rfl|rfl|rfl|rfl|rfl|rfl|rfl<;>exact WH)
theorem LG:Tryd.prog.follows .mixedOrders=true:=by kernel_rfl
end Go.Proofs.YtpljiekkimkceaaDoor
namespace Go.Eng
set_option linter.all false
open Go Go.RowKit Go.Shelf
theorem Ok.grown{l:Nat}{H:Hp}{m:Mu}{S:Nat→Prop}{w w':World}(h:Ok l H m S w)(os:Array Obj)(g:w'.heap=w.heap++os)(t:w'.os=w.os)(u:w'.tape=w.tape)(y:w'.output=w.output):Ok l H m S w'∧Ext l H m S w H m S w':=by
 have c:∀b,b<w.heap.size→w'.heap[b]?=w.heap[b]?:=fun b c=>by rw[g,Y1 c]
 have a:Ext l H m S w H m S w':=⟨fun _ h=>h,fun b hs=>c b (h.sub b hs),fun _ _=>Yc _,fun k e A hl=>⟨hl,rfl,rfl⟩,t,u,y,by rw[g,Jw];omega⟩
 refine⟨⟨fun b hs=>by have:=h.sub b hs;rw[g,Jw];omega,h.empty,h.fresh,h.inj,fun k e hl z=>?_,h.mp.step (Yc _) (fun _ _ d _=>⟨d,rfl,rfl⟩) (fun _ h=>h) (fun _ h=>.inl h) a.blk (fun b o p _=>(c b (Di p)).trans p)⟩,a⟩
 obtain⟨C,j,r,s,n⟩:=h.blk k e hl z
 have f:(m k).b<w.heap.size:=(Yu.1 j).1
 exact⟨C,by rw[c _ f];exact j,r,s,fun i x v q d=>⟨(n i x v q d).1,(n i x v q d).2.ext a e⟩⟩
def AO(x:ByteArray):List UInt8:=x.data.toList
def CF(xs:List ByteArray):List ByteArray:=xs.mergeSort fun x y=>decide (AO x≤AO y)
theorem EZ(xs:List ByteArray):(CF xs).length=xs.length:=List.length_mergeSort _
theorem Si(xs:List ByteArray):(xs.map AO).mergeSort (fun x y=>decide (x≤y))=(CF xs).map AO:=by
 unfold CF
 rw[List.map_mergeSort (s:=fun x y=>decide (x≤y)) (f:=AO) (fun _ _ _ _=>rfl)]
theorem Oe(x:ByteArray):Go.Proofs.encStr (AO x)=.string x:=by
 unfold AO
 obtain⟨⟨l⟩⟩:=x
 rfl
theorem US{off:Nat}{d:Array (List UInt8)}{C:Array Value}{i:Nat}(hi:i<d.size)(a:off+i<C.size):(Go.Sort.putCells Go.Proofs.encStr off d C)[off+i]?=some (Go.Proofs.encStr d[i]!):=by
 unfold Go.Sort.putCells
 rw[Array.getElem?_mapIdx,Yi a,YB,Yt (by omega)]
 rw[show off+i-off=i from by omega]
theorem U8(w:World)(b:Nat)(f:Array Value→Array Value){C:Array Value}{e:TypeId}{fr:Nat×Nat}(h:w.heap[b]?=some (.cells C e fr))(i:Nat):(Go.Sort.mapBlock w b f).heap[i]?=if i=b then some (.cells (f C) e fr)else w.heap[i]?:=by
 unfold Go.Sort.mapBlock
 show(w.heap.modify b _)[i]?=_
 rw[Hz]
 by_cases hi:b=i
 ·subst hi;rw[Yt rfl,Yt rfl,h];rfl
 ·rw[Yy hi,Yy fun e=>hi e.symm]
end Go.Eng
namespace Go.Proofs.YtpljiekkimkceaaDoor
set_option linter.all false
open Go Go.RowKit Go.Shelf Go.Proofs Go.Eng
attribute [local go_sem] Oper.semAt_some
def A6(c a:Nat)(W b:World):Prop:=Below c W b∧∀C f,W.heap[a]?=some (.cells C 26 f)→b.heap[a]?=some (.cells C 26 f)
theorem A6.refl(b a:Nat)(W:World):A6 b a W W:=⟨Below.refl _ _,fun _ _ h=>h⟩
theorem A6.trans{b a:Nat}{A B C:World}(h:A6 b a A B)(k:A6 b a B C):A6 b a A C:=⟨h.1.trans k.1,fun _ _ e=>k.2 _ _ (h.2 _ _ e)⟩
theorem A6.grown{c a:Nat}{W b:World}{row:Option Nat}(d:Below c W b)(g:W.grownBy b row)(h:∀C f,W.heap[a]?=some (.cells C 26 f)→some a≠row):A6 c a W b:=⟨d,fun C f e=>(g.block a (Yu.1 e).1 (h C f e)).trans e⟩
theorem A6.alloc(a b:Nat)(W:World)(h:a≤W.heap.size)(o:Obj):A6 a b W (W.alloc o):=A6.grown ((Below.refl a W).alloc h o) (World.grownBy_alloc W o none) (fun _ _ _=>by simp)
theorem IL{W:World}{B:Nat}{x y z:Value}{t:TypeId}{f:Nat×Nat}(h:W.heap[B]?=some (.cells #[x,y,z] t f)):W.cell? ⟨B,0,none⟩=some x∧W.cell? ⟨B,1,none⟩=some y∧W.cell? ⟨B,2,none⟩=some z:=by
 simp[World.cell?,h]
def C5(e:Nat)(W:World)(a:Option Addr)(d:List ByteArray):Prop:=
 0<d.length→∃b off,a=some ⟨b,off,none⟩∧b<e∧∀j,j<d.length→W.cell? ⟨b,off+j*5,none⟩=some (.string (d[j]?.getD ⟨#[]⟩))∧(∃o,W.cell? ⟨b,off+j*5+1,none⟩=some (.bool o))∧(∃a l c,W.cell? ⟨b,off+j*5+2,none⟩=some (.slice a l c))∧(∃a l c,W.cell? ⟨b,off+j*5+3,none⟩=some (.slice a l c))∧(∃a l c,W.cell? ⟨b,off+j*5+4,none⟩=some (.slice a l c))
theorem C5.below{d:Nat}{A B:World}(h:Below d A B){a:Option Addr}{f:List ByteArray}(H:C5 d A a f):C5 d B a f:=fun hl=>by
 obtain⟨b,off,e,c,m⟩:=H hl
 refine⟨b,off,e,c,fun j n=>?_⟩
 obtain⟨t,⟨s,u⟩,⟨g,o,i,v⟩,⟨a3,q,k,w⟩,⟨a4,r,l,x⟩⟩:=m j n
 exact⟨(h.cell (p:=⟨b,off+j*5,none⟩) c).trans t,⟨s,(h.cell (p:=⟨b,off+j*5+1,none⟩) c).trans u⟩,⟨g,o,i,(h.cell (p:=⟨b,off+j*5+2,none⟩) c).trans v⟩,⟨a3,q,k,(h.cell (p:=⟨b,off+j*5+3,none⟩) c).trans w⟩,⟨a4,r,l,(h.cell (p:=⟨b,off+j*5+4,none⟩) c).trans x⟩⟩
def C9(e:Nat)(W:World)(a:Option Addr)(d:List ByteArray):Prop:=
 0<d.length→∃b off,a=some ⟨b,off,none⟩∧b<e∧∀j,j<d.length→W.cell? ⟨b,off+j*5,none⟩=some (.string (d[j]?.getD ⟨#[]⟩))∧(∃a l c,W.cell? ⟨b,off+j*5+1,none⟩=some (.slice a l c))∧(∃a l c,W.cell? ⟨b,off+j*5+2,none⟩=some (.slice a l c))∧(∃a l c,W.cell? ⟨b,off+j*5+3,none⟩=some (.slice a l c))∧(∃a l c,W.cell? ⟨b,off+j*5+4,none⟩=some (.slice a l c))
theorem C9.below{d:Nat}{A B:World}(h:Below d A B){a:Option Addr}{f:List ByteArray}(H:C9 d A a f):C9 d B a f:=fun hl=>by
 obtain⟨b,off,e,c,n⟩:=H hl
 refine⟨b,off,e,c,fun j o=>?_⟩
 obtain⟨u,⟨a1,q,i,v⟩,⟨g,r,k,w⟩,⟨a3,s,l,x⟩,⟨a4,t,m,y⟩⟩:=n j o
 exact⟨(h.cell (p:=⟨b,off+j*5,none⟩) c).trans u,⟨a1,q,i,(h.cell (p:=⟨b,off+j*5+1,none⟩) c).trans v⟩,⟨g,r,k,(h.cell (p:=⟨b,off+j*5+2,none⟩) c).trans w⟩,⟨a3,s,l,(h.cell (p:=⟨b,off+j*5+3,none⟩) c).trans x⟩,⟨a4,t,m,(h.cell (p:=⟨b,off+j*5+4,none⟩) c).trans y⟩⟩
def C3(e:Nat)(W:World)(a:Option Addr)(d:List ByteArray):Prop:=
 0<d.length→∃b off,a=some ⟨b,off,none⟩∧b<e∧∀j,j<d.length→W.cell? ⟨b,off+j*3,none⟩=some (.string (d[j]?.getD ⟨#[]⟩))∧(∃a l c,W.cell? ⟨b,off+j*3+1,none⟩=some (.slice a l c))∧(∃a l c,W.cell? ⟨b,off+j*3+2,none⟩=some (.slice a l c))
theorem C3.below{d:Nat}{A B:World}(h:Below d A B){a:Option Addr}{f:List ByteArray}(H:C3 d A a f):C3 d B a f:=fun hl=>by
 obtain⟨b,off,e,c,l⟩:=H hl
 refine⟨b,off,e,c,fun j m=>?_⟩
 obtain⟨q,⟨a1,n,i,r⟩,⟨g,o,k,s⟩⟩:=l j m
 exact⟨(h.cell (p:=⟨b,off+j*3,none⟩) c).trans q,⟨a1,n,i,(h.cell (p:=⟨b,off+j*3+1,none⟩) c).trans r⟩,⟨g,o,k,(h.cell (p:=⟨b,off+j*3+2,none⟩) c).trans s⟩⟩
set_option maxRecDepth 100000 in
set_option maxHeartbeats 8000000 in
theorem Ws(F:Fence)(n:Nat)(h7:F.fn 29)(hro:F.round=none)(hn:1≤n)(l Bs n₀ le ce lm cm lv cv:Nat)(am ae av:Option Addr)(ze zm zv:List ByteArray)(J Jx:List ByteArray→World→Prop)
  (hA:∀pre W o,J pre W→J pre (W.alloc o)) (hle:le=ze.length) (hlm:lm=zm.length) (hlv:lv=zv.length)
  (hze:∀z∈ze,z.size≤1048576) (hzm:∀z∈zm,z.size≤1048576) (hzv:∀z∈zv,z.size≤1048576)
  (Cv:ze.length≤1048576) (Ad:zm.length≤1048576) (Ee:zv.length≤1048576)
  (hY:∀pre x W,J pre W→pre.length<ze.length+zm.length+zv.length→YieldAt F (n-1) Tryd.prog l #[.string x] W fun e W'=>
   (e=.returned (.bool true)∧J (pre++[x]) W'∧A6 n₀ Bs W W')∨(e=.returned (.bool false)∧Jx (pre++[x]) W'))
  (W:World) (hn0:n₀≤W.heap.size) (hBox:W.heap[Bs]?=some (.cells #[.slice am lm cm,.slice ae le ce,.slice av lv cv] 26 (0,0)))
  (hE:C5 n₀ W ae ze) (hM:C9 n₀ W am zm) (hV:C3 n₀ W av zv) (h0:J [] W):
  CallsIn F n Tryd.prog 29 #[.func (.yield l) #[] #[],.pointer (some ⟨Bs,0,none⟩)] W fun e W'=>(∃v,e=.returned v)∧
   ((∃ys,ys=(ze.map fun z=>(⟨#[101,32]⟩:ByteArray)++z)++(zm.map fun z=>(⟨#[109,32]⟩:ByteArray)++z)++(zv.map fun z=>(⟨#[115,32]⟩:ByteArray)++z)∧J ys W')∨(∃pre,pre <+: (ze.map fun z=>(⟨#[101,32]⟩:ByteArray)++z)++(zm.map fun z=>(⟨#[109,32]⟩:ByteArray)++z)++(zv.map fun z=>(⟨#[115,32]⟩:ByteArray)++z)∧Jx pre W')):=by
 subst hle hlm hlv
 obtain⟨hB0,hB1,hB2⟩:=IL hBox
 refine callsIn_of_wp Tryd.func29 rfl h7 ?_ hro
 simp only[Tryd.ntmps29,HC,YQ,YX,Nat.reduceAdd,Nat.reduceSub,Jk,Jl,Jb,Jo,Y6,Em]
 gi_wp2
 gi_loopw [12] (fun i wr=>∃k:Nat,k≤ze.length∧i=.int .i64 k∧J ((ze.take k).map (fun z=>(⟨#[101,32]⟩:ByteArray)++z)) wr∧A6 n₀ Bs W wr)
  (fun i _=>ze.length-(intOf i).toNat)
 case atStart=>exact⟨0,CT _,rfl,by simpa using h0,A6.refl _ _ _⟩
 case round=>
  obtain⟨k,hk,rfl,hJs,hnx⟩:=hrel
  by_cases hlt:k<ze.length
  ·obtain⟨b,off,rfl,hb,hc⟩:=C5.below hnx.1 hE (by omega)
   obtain⟨q0,⟨o1,q1⟩,⟨a2,l2,c2,q2⟩,⟨a3,l3,c3,q3⟩,⟨a4,l4,c4,q4⟩⟩:=hc k hlt
   obtain⟨x,hx⟩:∃x,ze[k]?=some x:=⟨_,Yb hlt⟩
   rw[hx,YM]at q0
   have hsz:x.size≤1048576:=hze _ (Yp hx)
   have htk:((ze.take k).map (fun z=>(⟨#[101,32]⟩:ByteArray)++z))++[(⟨#[101,32]⟩:ByteArray)++x]=(ze.take (k+1)).map (fun z=>(⟨#[101,32]⟩:ByteArray)++z):=by
    have e:ze.take (k+1)=ze.take k++[x]:=by rw[Jz,hx];rfl
    rw[e,YY,YK,JE]
    first|done|simp only[YO]
   have hpf:(ze.take (k+1)).map (fun z=>(⟨#[101,32]⟩:ByteArray)++z) <+: (ze.map fun z=>(⟨#[101,32]⟩:ByteArray)++z)++(zm.map fun z=>(⟨#[109,32]⟩:ByteArray)++z)++(zv.map fun z=>(⟨#[115,32]⟩:ByteArray)++z):=by
    refine⟨(ze.drop (k+1)).map (fun z=>(⟨#[101,32]⟩:ByteArray)++z)++((zm.map fun z=>(⟨#[109,32]⟩:ByteArray)++z)++(zv.map fun z=>(⟨#[115,32]⟩:ByteArray)++z)),?_⟩
    have e:=Ji (k+1) ze
    conv=>rhs;rw[←e,YY]
    first|done|simp only[YO]
   clear hx hc
   have hs2:¬9223372036854775807<2+x.size:=by omega
   obtain⟨fn,tmps,assign,body,hy,hR⟩:=hY _ ((⟨#[101,32]⟩:ByteArray)++x) (wr.alloc (.cells #[.string x,.bool o1,.slice a2 l2 c2,.slice a3 l3 c3,.slice a4 l4 c4] 37)) (hA _ _ _ hJs) (by simp;omega)
   gi_wp2
   refine hR.mono ?_
   rintro e W3 (⟨rfl,hJ3,hk3⟩|⟨rfl,hJx3⟩)
   ·gi_wp2
    go_roundw
    case rel=>exact⟨k+1,by omega,by simp,by rw[←htk];exact hJ3,hnx.trans ((A6.alloc n₀ Bs wr (CQ hn0 hnx.1.size) _).trans hk3)⟩
    case measure=>simp[intOf];omega
   ·gi_wp2
    refine bodyPost_ret (results_none rfl _ _ _) rfl ?_
    rw[htk]at hJx3
    exact⟨⟨_,rfl⟩,.inr ⟨_,hpf,hJx3⟩⟩
  ·obtain rfl:k=ze.length:=by omega
   rw[Ge]at hJs
   obtain⟨hB0',hB1',hB2'⟩:=IL (hnx.2 _ _ hBox)
   gi_wp2
   gi_loopw [26] (fun i wr=>∃k:Nat,k≤zm.length∧i=.int .i64 k∧J ((ze.map fun z=>(⟨#[101,32]⟩:ByteArray)++z)++(zm.take k).map (fun z=>(⟨#[109,32]⟩:ByteArray)++z)) wr∧A6 n₀ Bs W wr)
    (fun i _=>zm.length-(intOf i).toNat)
   case atStart=>exact⟨0,CT _,rfl,by simpa using hJs,hnx⟩
   case round=>
    obtain⟨k,hk,rfl,hJs,hnx⟩:=hrel
    by_cases hlt:k<zm.length
    ·obtain⟨b,off,rfl,hb,hc⟩:=C9.below hnx.1 hM (by omega)
     obtain⟨q0,⟨a1,l1,c1,q1⟩,⟨a2,l2,c2,q2⟩,⟨a3,l3,c3,q3⟩,⟨a4,l4,c4,q4⟩⟩:=hc k hlt
     obtain⟨x,hx⟩:∃x,zm[k]?=some x:=⟨_,Yb hlt⟩
     rw[hx,YM]at q0
     have hsz:x.size≤1048576:=hzm _ (Yp hx)
     have htk:((ze.map fun z=>(⟨#[101,32]⟩:ByteArray)++z)++(zm.take k).map (fun z=>(⟨#[109,32]⟩:ByteArray)++z))++[(⟨#[109,32]⟩:ByteArray)++x]=(ze.map fun z=>(⟨#[101,32]⟩:ByteArray)++z)++(zm.take (k+1)).map (fun z=>(⟨#[109,32]⟩:ByteArray)++z):=by
      have e:zm.take (k+1)=zm.take k++[x]:=by rw[Jz,hx];rfl
      rw[e,YY,YK,JE]
      first|done|simp only[YO]
     have hpf:(ze.map fun z=>(⟨#[101,32]⟩:ByteArray)++z)++(zm.take (k+1)).map (fun z=>(⟨#[109,32]⟩:ByteArray)++z) <+: (ze.map fun z=>(⟨#[101,32]⟩:ByteArray)++z)++(zm.map fun z=>(⟨#[109,32]⟩:ByteArray)++z)++(zv.map fun z=>(⟨#[115,32]⟩:ByteArray)++z):=by
      refine⟨(zm.drop (k+1)).map (fun z=>(⟨#[109,32]⟩:ByteArray)++z)++((zv.map fun z=>(⟨#[115,32]⟩:ByteArray)++z)),?_⟩
      have e:=Ji (k+1) zm
      conv=>rhs;rw[←e,YY]
      first|done|simp only[YO]
     clear hx hc
     have hs2:¬9223372036854775807<2+x.size:=by omega
     obtain⟨fn,tmps,assign,body,hy,hR⟩:=hY _ ((⟨#[109,32]⟩:ByteArray)++x) (wr.alloc (.cells #[.string x,.slice a1 l1 c1,.slice a2 l2 c2,.slice a3 l3 c3,.slice a4 l4 c4] 32)) (hA _ _ _ hJs) (by simp;omega)
     gi_wp2
     refine hR.mono ?_
     rintro e W3 (⟨rfl,hJ3,hk3⟩|⟨rfl,hJx3⟩)
     ·gi_wp2
      go_roundw
      case rel=>exact⟨k+1,by omega,by simp,by rw[←htk];exact hJ3,hnx.trans ((A6.alloc n₀ Bs wr (CQ hn0 hnx.1.size) _).trans hk3)⟩
      case measure=>simp[intOf];omega
     ·gi_wp2
      refine bodyPost_ret (results_none rfl _ _ _) rfl ?_
      rw[htk]at hJx3
      exact⟨⟨_,rfl⟩,.inr ⟨_,hpf,hJx3⟩⟩
    ·obtain rfl:k=zm.length:=by omega
     rw[Ge]at hJs
     obtain⟨hB0',hB1',hB2'⟩:=IL (hnx.2 _ _ hBox)
     gi_wp2
     gi_loopw [40] (fun i wr=>∃k:Nat,k≤zv.length∧i=.int .i64 k∧J ((ze.map fun z=>(⟨#[101,32]⟩:ByteArray)++z)++(zm.map fun z=>(⟨#[109,32]⟩:ByteArray)++z)++(zv.take k).map (fun z=>(⟨#[115,32]⟩:ByteArray)++z)) wr∧A6 n₀ Bs W wr)
      (fun i _=>zv.length-(intOf i).toNat)
     case atStart=>exact⟨0,CT _,rfl,by simpa using hJs,hnx⟩
     case round=>
      obtain⟨k,hk,rfl,hJs,hnx⟩:=hrel
      by_cases hlt:k<zv.length
      ·obtain⟨b,off,rfl,hb,hc⟩:=C3.below hnx.1 hV (by omega)
       obtain⟨q0,⟨a1,l1,c1,q1⟩,⟨a2,l2,c2,q2⟩⟩:=hc k hlt
       obtain⟨x,hx⟩:∃x,zv[k]?=some x:=⟨_,Yb hlt⟩
       rw[hx,YM]at q0
       have hsz:x.size≤1048576:=hzv _ (Yp hx)
       have htk:((ze.map fun z=>(⟨#[101,32]⟩:ByteArray)++z)++(zm.map fun z=>(⟨#[109,32]⟩:ByteArray)++z)++(zv.take k).map (fun z=>(⟨#[115,32]⟩:ByteArray)++z))++[(⟨#[115,32]⟩:ByteArray)++x]=(ze.map fun z=>(⟨#[101,32]⟩:ByteArray)++z)++(zm.map fun z=>(⟨#[109,32]⟩:ByteArray)++z)++(zv.take (k+1)).map (fun z=>(⟨#[115,32]⟩:ByteArray)++z):=by
        have e:zv.take (k+1)=zv.take k++[x]:=by rw[Jz,hx];rfl
        rw[e,YY,YK,JE]
        first|done|simp only[YO]
       have hpf:(ze.map fun z=>(⟨#[101,32]⟩:ByteArray)++z)++(zm.map fun z=>(⟨#[109,32]⟩:ByteArray)++z)++(zv.take (k+1)).map (fun z=>(⟨#[115,32]⟩:ByteArray)++z) <+: (ze.map fun z=>(⟨#[101,32]⟩:ByteArray)++z)++(zm.map fun z=>(⟨#[109,32]⟩:ByteArray)++z)++(zv.map fun z=>(⟨#[115,32]⟩:ByteArray)++z):=by
        refine⟨(zv.drop (k+1)).map (fun z=>(⟨#[115,32]⟩:ByteArray)++z),?_⟩
        have e:=Ji (k+1) zv
        conv=>rhs;rw[←e,YY]
        first|done|simp only[YO]
       clear hx hc
       have hs2:¬9223372036854775807<2+x.size:=by omega
       obtain⟨fn,tmps,assign,body,hy,hR⟩:=hY _ ((⟨#[115,32]⟩:ByteArray)++x) (wr.alloc (.cells #[.string x,.slice a1 l1 c1,.slice a2 l2 c2] 42)) (hA _ _ _ hJs) (by simp;omega)
       gi_wp2
       refine hR.mono ?_
       rintro e W3 (⟨rfl,hJ3,hk3⟩|⟨rfl,hJx3⟩)
       ·gi_wp2
        go_roundw
        case rel=>exact⟨k+1,by omega,by simp,by rw[←htk];exact hJ3,hnx.trans ((A6.alloc n₀ Bs wr (CQ hn0 hnx.1.size) _).trans hk3)⟩
        case measure=>simp[intOf];omega
       ·gi_wp2
        refine bodyPost_ret (results_none rfl _ _ _) rfl ?_
        rw[htk]at hJx3
        exact⟨⟨_,rfl⟩,.inr ⟨_,hpf,hJx3⟩⟩
      ·obtain rfl:k=zv.length:=by omega
       rw[Ge]at hJs
       obtain⟨hB0',hB1',hB2'⟩:=IL (hnx.2 _ _ hBox)
       gi_wp2
       go_end0
       exact⟨⟨_,rfl⟩,.inl ⟨_,rfl,hJs⟩⟩
def R5:Go.Shelf.Ren:=⟨fun|190=>26|125=>31|258=>30|128=>43|129=>44|302=>34|303=>35|304=>36|305=>37|306=>38|307=>39|308=>40|309=>41|310=>42|333=>50|329=>51|330=>52|334=>53|335=>54|336=>55|344=>60|n=>n,fun|31=>29|9=>9|3=>3|46=>90|0=>0|51=>104|53=>62|4=>4|183=>96|182=>95|131=>101|5=>5|218=>110|222=>114|228=>120|229=>121|n=>n,fun|n=>n⟩
set_option maxRecDepth 100000 in
theorem OU:Go.Proofs.Lays.n190 Tryd.prog R5 where
 mixed:=by kernel_rfl
 f125:=Tryd.func31.trans (congrArg some (by kernel_rfl))
 f128:=Tryd.func43.trans (congrArg some (by kernel_rfl))
 f129:=Tryd.func44.trans (congrArg some (by kernel_rfl))
 f190:=Tryd.func26.trans (congrArg some (by kernel_rfl))
 f258:=Tryd.func30.trans (congrArg some (by kernel_rfl))
 f302:=Tryd.func34.trans (congrArg some (by kernel_rfl))
 f303:=Tryd.func35.trans (congrArg some (by kernel_rfl))
 f304:=Tryd.func36.trans (congrArg some (by kernel_rfl))
 f305:=Tryd.func37.trans (congrArg some (by kernel_rfl))
 f306:=Tryd.func38.trans (congrArg some (by kernel_rfl))
 f307:=Tryd.func39.trans (congrArg some (by kernel_rfl))
 f308:=Tryd.func40.trans (congrArg some (by kernel_rfl))
 f309:=Tryd.func41.trans (congrArg some (by kernel_rfl))
 f310:=Tryd.func42.trans (congrArg some (by kernel_rfl))
 f329:=Tryd.func51.trans (congrArg some (by kernel_rfl))
 f330:=Tryd.func52.trans (congrArg some (by kernel_rfl))
 f333:=Tryd.func50.trans (congrArg some (by kernel_rfl))
 f334:=Tryd.func53.trans (congrArg some (by kernel_rfl))
 f335:=Tryd.func54.trans (congrArg some (by kernel_rfl))
 f336:=Tryd.func55.trans (congrArg some (by kernel_rfl))
 f344:=Tryd.func60.trans (congrArg some (by kernel_rfl))
 t0:=Tryd.underlying0
 a0:=Tryd.isAgg0
 z0:=Tryd.sizeOf0
 v0:=Tryd.zeroValue0
 t3:=Tryd.underlying3
 a3:=Tryd.isAgg3
 z3:=Tryd.sizeOf3
 v3:=Tryd.zeroValue3
 t4:=Tryd.underlying4
 a4:=Tryd.isAgg4
 z4:=Tryd.sizeOf4
 v4:=Tryd.zeroValue4
 t5:=Tryd.underlying5
 a5:=Tryd.isAgg5
 z5:=Tryd.sizeOf5
 v5:=Tryd.zeroValue5
 t9:=Tryd.underlying9
 a9:=Tryd.isAgg9
 z9:=Tryd.sizeOf9
 v9:=Tryd.zeroValue9
 t31:=Tryd.underlying29
 a31:=Tryd.isAgg29
 z31:=Tryd.sizeOf29
 v31:=Tryd.zeroValue29
 t46:=Tryd.underlying90
 a46:=Tryd.isAgg90
 z46:=Tryd.sizeOf90
 v46:=Tryd.zeroValue90
 t51:=Tryd.underlying104
 a51:=Tryd.isAgg104
 z51:=Tryd.sizeOf104
 v51:=Tryd.zeroValue104
 t53:=Tryd.underlying62
 a53:=Tryd.isAgg62
 z53:=Tryd.sizeOf62
 v53:=Tryd.zeroValue62
 t131:=Tryd.underlying101
 a131:=Tryd.isAgg101
 z131:=Tryd.sizeOf101
 v131:=Tryd.zeroValue101
 t182:=Tryd.underlying95
 a182:=Tryd.isAgg95
 z182:=Tryd.sizeOf95
 v182:=Tryd.zeroValue95
 t183:=Tryd.underlying96
 a183:=Tryd.isAgg96
 z183:=Tryd.sizeOf96
 v183:=Tryd.zeroValue96
 t218:=Tryd.underlying110
 a218:=Tryd.isAgg110
 z218:=Tryd.sizeOf110
 v218:=Tryd.zeroValue110
 t222:=Tryd.underlying114
 a222:=Tryd.isAgg114
 z222:=Tryd.sizeOf114
 v222:=Tryd.zeroValue114
 t228:=Tryd.underlying120
 a228:=Tryd.isAgg120
 z228:=Tryd.sizeOf120
 v228:=Tryd.zeroValue120
 t229:=Tryd.underlying121
 a229:=Tryd.isAgg121
 z229:=Tryd.sizeOf121
 v229:=Tryd.zeroValue121
theorem Rr(F:Fence)(n:Nat)(a:F.fn 25)(b:F.round=none)(c ae av:Option Addr)(g f le d h cv:Nat)(w:World):
  CallsIn F n Tryd.prog 25 #[.agg #[.slice c g f,.slice ae le d,.slice av h cv]] w fun e w'=>e=.returned (.func (.func 29) #[] #[.pointer (some ⟨w.heap.size,0,none⟩)])∧w'=w.alloc (.cells #[.slice c g f,.slice ae le d,.slice av h cv] 26):=by
 refine callsIn_of_wp Tryd.func25 rfl a ?_ b
 simp only[Tryd.ntmps25,HC,YQ,YX,Nat.reduceAdd,Nat.reduceSub,Jk,Jl,Jb,Jo,Y6,Em]
 gi_wp2
 go_ret
 exact⟨rfl,rfl⟩
def Bm(ze a b:List ByteArray):List ByteArray:=(ze.map fun z=>(⟨#[101,32]⟩:ByteArray)++z)++(a.map fun z=>(⟨#[109,32]⟩:ByteArray)++z)++(b.map fun z=>(⟨#[115,32]⟩:ByteArray)++z)
theorem QW(F:Fence)(n:Nat)(m:F.fn 29)(t:F.round=none)(P:1≤n)(i g le C A D B cv:Nat)(k ae av:Option Addr)(ze d f:List ByteArray)
  (p:le=ze.length) (q:A=d.length) (s:B=f.length)
  (u:∀z∈ze,z.size≤1048576) (v:∀z∈d,z.size≤1048576) (y:∀z∈f,z.size≤1048576)
  (Cv:ze.length≤1048576) (Ad:d.length≤1048576) (Ee:f.length≤1048576)
  (w:World) (b:g≤w.heap.size) (c:w.heap[i]?=some (.cells #[.slice k A D,.slice ae le C,.slice av B cv] 26 (0,0)))
  (I:C5 g w ae ze) (M:C9 g w k d) (N:C3 g w av f):
  SeqStopsK F n Tryd.prog 29 #[.pointer (some ⟨i,0,none⟩)] (fun x:ByteArray=>#[Value.string x]) (A6 g i) (fun ys=>ys=Bm ze d f) (fun a=>a <+: Bm ze d f) (ze.length+d.length+f.length) w:=fun l J E W j K L O H=>
 Ws F n m t P l i g le C A D B cv k ae av ze d f J E (fun a W o h=>K a W _ none h (World.grownBy_alloc W o none) (fun r e=>by cases e)) p q s u v y Cv Ad Ee
  (fun a x G Q hl=>O a x G Q hl) W (CQ b j.size) ((j.block i (Yu.1 c).1).trans c) (C5.below (j.mono b) I) (C9.below (j.mono b) M) (C3.below (j.mono b) N) H
theorem VG:(Tryd.prog.info? 9).map (fun i=>(i.zero,i.size,i.bytes))=some (some (.string ⟨#[]⟩),1,16):=by kernel_rfl
theorem Q1{W:World}{B:Nat}{C:Array Value}{t e:TypeId}{f:Nat×Nat}(h:W.heap[B]?=some (.cells C t f))(c:t≠e){a size k:Nat}{v:Value}{xs:List Value}(i:W.ownsRow a e size v k xs):some B≠v.ownBlock:=by
 rcases i.2 with⟨rfl,_⟩|⟨g,cap,d,rfl,_,b,_⟩
 ·simp[Value.ownBlock]
 ·intro e'
  obtain rfl:B=g:=by simpa[Value.ownBlock]using e'
  have:=h.symm.trans b
  simp at this
  exact c this.2.1
theorem RO(W:World)(g off k:Nat)(d:Array (List UInt8))(os:Array Obj)(f:g<W.heap.size):W.grownBy (Go.Sort.grow (Go.Sort.putRow encStr (Go.Sort.ahead W k) g off d) os) (some g):=by
 refine⟨rfl,rfl,rfl,?_,fun b c a=>?_⟩
 ·show W.heap.size≤((W.heap.modify g _)++os).size
  rw[Jw,Array.size_modify];omega
 ·show((W.heap.modify g _)++os)[b]?=_
  rw[Y1 (by rw[Array.size_modify];exact c),Hz,Yy (fun e=>a (by rw[e]))]
theorem SU{W:World}{g k:Nat}{d:Array (List UInt8)}{os:Array Obj}{C:Array Value}{e:TypeId}{f:Nat×Nat}(h:W.heap[g]?=some (.cells C e f)){j:Nat}(c:j<d.size)(l:j<C.size):(Go.Sort.grow (Go.Sort.putRow encStr (Go.Sort.ahead W k) g 0 d) os).cell? ⟨g,j,none⟩=some (encStr d[j]!):=by
 have m:=(Yu.1 h).1
 have b:(Go.Sort.grow (Go.Sort.putRow encStr (Go.Sort.ahead W k) g 0 d) os).heap[g]?=some (.cells (Go.Sort.putCells encStr 0 d C) e f):=by
  have a:=U8 (Go.Sort.ahead W k) g (Go.Sort.putCells encStr 0 d) h g
  rw[Yt rfl]at a
  show((Go.Sort.mapBlock (Go.Sort.ahead W k) g _).heap++os)[g]?=_
  rw[Y1 (Yu.1 a).1]
  exact a
 unfold World.cell?
 simp only[b]
 have:=US (off:=0) (d:=d) (C:=C) (i:=j) c (by omega)
 simpa using this
def S5(w:World)(ys:List ByteArray)(e:Ending)(a:World):Prop:=∃v,e=.returned v∧Below w.heap.size w a∧((ys=[]∧v=.slice none 0 0)∨∃g cap,v=.slice (some ⟨g,0,none⟩) ys.length cap∧w.heap.size≤g∧g<a.heap.size∧ys.length≤cap∧∀j x,(CF ys)[j]?=some x→a.cell? ⟨g,j,none⟩=some (.string x))
set_option maxRecDepth 100000 in
set_option maxHeartbeats 8000000 in
theorem TL(am ae av:Option Addr)(lm cm le ce lv cv:Nat)(ze zm zv:List ByteArray)
  (hle:le=ze.length) (hlm:lm=zm.length) (hlv:lv=zv.length)
  (hze:∀z∈ze,z.size≤1048576) (hzm:∀z∈zm,z.size≤1048576) (hzv:∀z∈zv,z.size≤1048576)
  (Cv:ze.length≤1048576) (Ad:zm.length≤1048576) (Ee:zv.length≤1048576)
  (w:World) (hE:C5 w.heap.size w ae ze) (hM:C9 w.heap.size w am zm) (hV:C3 w.heap.size w av zv):
  Calls Tryd.prog 13 #[.agg #[.slice am lm cm,.slice ae le ce,.slice av lv cv]] w (S5 w (Bm ze zm zv)):=by
 subst hle hlm hlv
 refine(callsIn_wide (n:=4)).1 ?_
 have hro:Fence.wide.round=none:=rfl
 have h1:1≤4:=by omega
 obtain⟨i0,hi,hz0,hz1,hz2⟩:=info_parts VG
 refine callsIn_of_wp_marks Tryd.func13 rfl trivial ?_ hro
 simp only[Tryd.ntmps13,HC,YQ,YX,Nat.reduceAdd,Nat.reduceSub,Jk,Jl,Jb,Jo,Y6,Em]
 gi_wp2_with (refine⟨trivial,?_⟩;gi_at_call 25;refine(Rr Fence.wide (4-1) trivial hro _ _ _ _ _ _ _ _ _ _).mono ?_;rintro e w' ⟨rfl,rfl⟩)
 have bO:Boxed (w.alloc (.cells #[.slice am zm.length cm,.slice ae ze.length ce,.slice av zv.length cv] 26) |>.alloc (.cells #[.slice none 0 0] 29)) (w.heap.size+1) 29 (.slice none 0 0):=by
  have:=Boxed.new (w.alloc (.cells #[.slice am zm.length cm,.slice ae ze.length ce,.slice av zv.length cv] 26)) 29 (.slice none 0 0)
  rw[World.size_alloc]at this
  exact this
 have hB0:Below w.heap.size w (((w.alloc (.cells #[.slice am zm.length cm,.slice ae ze.length ce,.slice av zv.length cv] 26)).alloc (.cells #[.slice none 0 0] 29)).alloc (.cells #[.slice am zm.length cm,.slice ae ze.length ce,.slice av zv.length cv] 26)):=(((Below.refl _ w).alloc (Yc _) _).alloc (by simp) _).alloc (by simp;omega) _
 have hBox:(((w.alloc (.cells #[.slice am zm.length cm,.slice ae ze.length ce,.slice av zv.length cv] 26)).alloc (.cells #[.slice none 0 0] 29)).alloc (.cells #[.slice am zm.length cm,.slice ae ze.length ce,.slice av zv.length cv] 26)).heap[w.heap.size+1+1]?=some (.cells #[.slice am zm.length cm,.slice ae ze.length ce,.slice av zv.length cv] 26 (0,0)):=by
  have:=World.alloc_heap_new ((w.alloc (.cells #[.slice am zm.length cm,.slice ae ze.length ce,.slice av zv.length cv] 26)).alloc (.cells #[.slice none 0 0] 29)) (.cells #[.slice am zm.length cm,.slice ae ze.length ce,.slice av zv.length cv] 26)
  simpa using this
 refine wpIn_rangeFunc_ownG hro h1 (gf:=29) (lb:=#[.pointer (some ⟨w.heap.size+1+1,0,none⟩)]) rfl trivial (enters_of Tryd.func29 (by kernel_rfl) rfl)
  (QW Fence.wide (4-1) trivial hro (by omega) (w.heap.size+1+1) w.heap.size ze.length ce zm.length cm zv.length cv am ae av ze zm zv rfl rfl rfl hze hzm hzv Cv Ad Ee _ (by simp;omega) hBox (C5.below hB0 hE) (C9.below hB0 hM) (C3.below hB0 hV))
  A6.trans (fun W l o o' hl ho hc hw=>A6.grown (belowK_b (w:=w) (Yc _) W l o o' (by simp at hl;omega) ho hc hw) (grownBy_putObj' W l o') (fun C f e ej=>by cases ej;rw[ho]at e;cases e;cases hc)) (Below.refl _ _) (fun _=>rfl)
  (fun pre W=>(∃v,Boxed W (w.heap.size+1) 29 v∧W.ownsRow w.heap.size 9 1 v pre.length (pre.map Value.string)∧(v=.slice none 0 0↔pre=[]))∧Below w.heap.size w W)
  (fun _ _ _=>False)
  (OwnFrom.and (Own.from (holdsRow_own w.heap.size (w.heap.size+1) 29 9 1 (fun pre:List ByteArray=>pre.length) (fun pre=>pre.map Value.string) (fun pre v=>v=.slice none 0 0↔pre=[])) _) (ownFrom_below (Yc _) (by simp;omega)))
  (fun _ _ _ _ _ hs _ _=>hs)
  ⟨⟨_,bO.alloc _,World.ownsRow_nil _ _ _ _,by simp⟩,hB0⟩
  (fun x=>{tmps:=#[Value.agg #[Value.slice am zm.length cm,Value.slice ae ze.length ce,Value.slice av zv.length cv],
     Value.pointer (some {block:=w.heap.size,off:=0 }),Value.slice none 0 0,
     Value.pointer (some {block:=w.heap.size+1,off:=0 }),.string x,
     Value.agg #[Value.slice am zm.length cm,Value.slice ae ze.length ce,Value.slice av zv.length cv],
     Value.func (Fn.func 29) #[] #[Value.pointer (some {block:=w.heap.size+1+1,off:=0 })],.string x,undef,
     undef,undef,undef,undef,undef,undef],defers:=[] }) ?assign ?body ?done ?stop
 case assign=>
  intro l x W K hK
  gi_wp2
  exact hK
 case body=>
  rintro l pre x W ⟨⟨v,hv,hrow,hnil⟩,hB⟩ hlt
  have hc:=hv.cell
  gi_wp2_with (gi_at_builtin;refine wpListIn_append_own _ rfl _ _ 29 rfl w.heap.size 9 i0 (.string ⟨#[]⟩) 1 16 Tryd.underlying29 hi hz0 hz1 hz2 rfl (by decide) _ _ _ rfl (hrow.alloc _) ⟨W.heap.size,0,none⟩ 1 1 [.string x] rfl rfl (cell_one_new _ _ _) (by simp[Value.oneCell']) (by unfold maxLen;omega) (by omega) (by have:=hB.size;simp;omega) ?_;intro v' w1 hown' hgrow _;obtain⟨g',cap',rfl⟩:=ownsRow_succ hown';obtain⟨hv1,hv2,hr2,hk2,Ad⟩:=hv.appended (by decide) hrow hB.size (by omega) hown' hgrow;have hc1:=hv1.cell;have hf1:=hv1.frozen)
  refine⟨hk2.from _,⟨Ad,fun C f e=>?_⟩,⟨_,hv2,by simpa using hr2,by simp⟩,hB.trans Ad⟩
  have hl0:=(Yu.1 e).1
  have e1:=fun o:Obj=>((World.grownBy_alloc W o none).block _ hl0 (by simp)).trans e
  have e2:=(hgrow.block _ (Yu.1 (e1 _)).1 (Q1 e (by decide) hrow)).trans (e1 _)
  exact((grownBy_setCell' w1 _ _).block _ (Yu.1 e2).1 (by simp)).trans e2
 case done=>
  rintro D ys W hD rfl ⟨⟨v,hv,hrow,hnil⟩,hB⟩ hK
  have hc:=hv.cell
  have hn1:=hnil.1
  have hn2:=hnil.2
  clear hnil
  rcases hrow.2 with⟨rfl,h0⟩|⟨g,cap,cur,rfl,hg,hgb,hcap,hmax,hsz,htake⟩
  ·have hn3:=hn1 rfl
   clear hn1 hn2
   gi_wp2_with (refine⟨trivial,?_⟩;gi_at_call 26;refine(callsIn_wide.2 (Go.Proofs.Any.slices_Sort_string_none OU none 0 W)).mono ?_;rintro e w1 ⟨rfl,rfl⟩)
   refine⟨by simp,.inl ⟨_,_,rfl,run_takeDeferred hK,?_⟩⟩
   exact⟨_,results_tmp rfl _ _ _,_,rfl,hB.trans (belowK_b (w:=w) (Yc _) _ D _ _ (by simp at hD;omega) hK rfl rfl),.inl ⟨hn3,rfl⟩⟩
  ·have hn4:Bm ze zm zv≠[]:=fun e=>by have:=hn2 e;cases this
   clear hn1 hn2
   have hlen:(Bm ze zm zv).length≤3145728:=by unfold Bm;simp;omega
   have hcur:∀(j:Nat) (x:ByteArray),(Bm ze zm zv)[j]?=some x→cur[j]?=some (.string x):=fun j x hx=>by
    have hj:=(Yg.1 hx).1
    have e1:=congrArg (fun l=>l[j]?) htake
    simp only[Yn,hx,YB,Nat.mul_one]at e1
    rw[List.getElem?_take_of_lt hj,Yj]at e1
    exact e1
   have hHo:Go.Sort.Holds encStr W g 0 ((Bm ze zm zv).map AO).toArray:=fun j hj=>by
    have hj':j<(Bm ze zm zv).length:=by simpa using hj
    have e1:((Bm ze zm zv).map AO).toArray[j]! =AO (Bm ze zm zv)[j]:=by rw[getElem!_pos _ j hj];simp
    rw[e1,Oe,YH]
    refine⟨?_,?_⟩
    ·unfold World.cell?
     simp only[hgb]
     exact hcur j _ (Yb hj')
    ·unfold World.frozen?
     simp only[hgb]
     simp
   have hlt:g<W.heap.size:=(Yu.1 hgb).1
   have hS:=Go.Proofs.Any.slices_Sort_string OU g 0 cap ((Bm ze zm zv).map AO) W hHo hlt (by rw[Ym];omega)
   rw[Ym,Si]at hS
   have hgB:some (w.heap.size+1)≠some g:=fun e=>by
    cases e
    have e1:=(show W.heap[w.heap.size+1]?=_ from hv).symm.trans hgb
    simp at e1
   have hS2:Calls Tryd.prog 26 #[.slice (some ⟨g,0,none⟩) (Bm ze zm zv).length cap] W fun e w1=>e=.returned (.tuple #[])∧W.grownBy w1 (some g)∧∀j x,(CF (Bm ze zm zv))[j]?=some x→w1.cell? ⟨g,j,none⟩=some (.string x):=hS.mono fun e w1 ⟨h1,k,os,hw⟩=>by
    subst hw
    refine⟨h1,RO W g 0 k _ os hlt,fun j x hx=>?_⟩
    have hj:=(Yg.1 hx).1
    rw[EZ]at hj
    have hC:j<cur.size:=by rw[hsz,Nat.mul_one];omega
    rw[SU hgb (by simpa[EZ]using hj) hC]
    have e2:((CF (Bm ze zm zv)).map AO).toArray[j]! =AO x:=by
     have hjs:j<((CF (Bm ze zm zv)).map AO).toArray.size:=by simpa[EZ]using hj
     rw[getElem!_pos _ j hjs]
     have:=(Yg.1 hx).2
     simp[this]
    rw[e2,Oe]
   clear hS
   gi_wp2_with (refine⟨trivial,?_⟩;gi_at_call 26;refine(callsIn_wide.2 hS2).mono ?_;rintro e w1 ⟨rfl,hg1,hcs⟩;have hc1:=(hv.kept hg1 hgB).cell)
   have hD1:w1.heap[D]?=some (.deferred (some [])):=(hg1.block D (Yu.1 hK).1 (fun e=>by cases e;rw[hgb]at hK;cases hK)).trans hK
   refine⟨by simp,.inl ⟨_,_,rfl,run_takeDeferred hD1,?_⟩⟩
   have Cv:Below w.heap.size W w1:=(Below.refl w.heap.size W).grown hg1 hB.size (fun j ej=>by cases ej;exact hg)
   have Ad:=belowK_b (w:=w) (Yc _) w1 D _ (.deferred none) (by simp at hD;omega) hD1 rfl rfl
   refine⟨_,results_tmp rfl _ _ _,_,rfl,(hB.trans Cv).trans Ad,.inr ⟨g,cap,rfl,hg,?_,hcap,fun j x hx=>?_⟩⟩
   ·exact F9 (F9 hlt hg1.size) Ad.size
   ·exact cell_kept (hcs j x hx) (grownBy_putObj' w1 D (.deferred none)) (fun r e=>by cases e;exact⟨_,hD1,rfl⟩)
 case stop=>
  rintro D c pre W _ _ h _
  exact h.elim
end Go.Proofs.YtpljiekkimkceaaDoor
