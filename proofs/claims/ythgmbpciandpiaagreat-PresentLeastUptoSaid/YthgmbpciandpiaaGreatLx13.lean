import Derived.Test.YthgmbpciandpiaaGreatLx12
import Derived.OrdersHeld
import Derived.Test.YthgmbpciandpiaaGreatLx11
import Derived.Shelf.Sort.Plain
import Derived.Shelf.Slices.In.SortNone
import Derived.Shelf.Slices.CompactS
import Derived.Test.YthgmbpciandpiaaGreatLx00
namespace Go.Eng
set_option linter.all false
open Go Go.RowKit
inductive Pl where
 |nil
 |fst (i:Nat) (r:Pl)
 |two (i j:Nat) (a b:Pl)
 |opt (hs:List Nat) (i:Nat) (r s:Pl)
def Pl.len:Pl→Nat
 |.nil=>0
 |.fst _ r=>r.len+1
 |.two _ _ a _=>a.len+1
 |.opt _ _ r _=>r.len+1
def WC:Pl→Bool
 |.opt _ _ _ _=>true
 |_=>false
def RY:Pl→List Nat
 |.opt _ i _ s=>i::RY s
 |_=>[]
def LR:Pl→Bool
 |.opt hs i r s=>hs.all fun k=>(RY (.opt hs i r s)).any (Nat.beq k)
 |_=>true
def Er(P:Program)(L:List Oper)(Q:Exit→Act→World→Prop)(S:World→Prop):Pl→Act→World→Prop
 |.nil,a,w=>Q .normal a w
 |.fst i r,a,w=>match Bw L i with
  |some o=>o.wp P a w (fun b w'=>S w'∧Er P L Q S r b w') Q
  |none=>False
 |.two i j x y,a,w=>match Bw L i,Bw L j with
  |some o,some c=>o.wp P a w (fun b w'=>S w'∧Er P L Q S x b w') Q∧c.wp P a w (fun b w'=>S w'∧Er P L Q S y b w') Q
  |_,_=>False
 |.opt _ i x y,a,w=>match Bw L i with
  |some o=>o.wp P a w (fun b w'=>S w'∧Er P L Q S x b w') Q∧(WC y=true→Er P L Q S y a w)
  |none=>False
def Q6(a hs:List Nat):Nat→List Oper→Bool
 |_,[]=>true
 |k,ok::r=>(a.any (Nat.beq k)||hs.any (Nat.beq k)||ok.after.toList.any (fun e=>Region.binds .any e&&!a.any (Nat.beq e.on)))&&Q6 a hs (k+1) r
theorem ZnK{a hs:List Nat}:∀{r:List Oper} {c k:Nat} {ok:Oper},Q6 a hs c r=true→r[k]?=some ok→
  (c+k)∈a∨c+k∈hs∨∃e∈ok.after,Region.binds .any e=true∧e.on∉a
 |[],c,k,ok,_,h=>by simp at h
 |q::r,c,k,ok,f,h=>by
  unfold Q6 at f
  rw[Yc]at f
  cases k with
  |zero=>
   simp only[Y7,Yi]at h
   subst h
   have b:=f.1
   simp only[YF]at b
   rcases b with(b|b)|b
   ·exact .inl (Gb.1 b)
   ·exact .inr (.inl (Gb.1 b))
   ·obtain⟨e,he,d⟩:=YQ.1 b
    rw[Yc]at d
    exact .inr (.inr ⟨e,by simpa using he,d.1,fun hm=>by have:=Gb.2 hm;rw[this]at d;cases d.2⟩)
  |succ k=>
   have:=ZnK (k:=k) f.2 (by simpa using h)
   grind
def S6(a:List Nat)(i j:Nat):Nat→List Oper→Bool
 |_,[]=>true
 |k,ok::r=>(a.any (Nat.beq k)||Nat.beq k i||Nat.beq k j||ok.after.toList.any (fun e=>Region.binds .any e&&!a.any (Nat.beq e.on)))&&S6 a i j (k+1) r
theorem Zr2{a:List Nat}{i j:Nat}:∀{r:List Oper} {c k:Nat} {ok:Oper},S6 a i j c r=true→r[k]?=some ok→
  (c+k)∈a∨c+k=i∨c+k=j∨∃e∈ok.after,Region.binds .any e=true∧e.on∉a
 |[],c,k,ok,_,h=>by simp at h
 |q::r,c,k,ok,f,h=>by
  unfold S6 at f
  rw[Yc]at f
  cases k with
  |zero=>
   simp only[Y7,Yi]at h
   subst h
   have b:=f.1
   simp only[YF]at b
   rcases b with((b|b)|b)|b
   ·exact .inl (Gb.1 b)
   ·exact .inr (.inl (Yb b))
   ·exact .inr (.inr (.inl (Yb b)))
   ·obtain⟨e,he,d⟩:=YQ.1 b
    rw[Yc]at d
    exact .inr (.inr (.inr ⟨e,by simpa using he,d.1,fun hm=>by have:=Gb.2 hm;rw[this]at d;cases d.2⟩))
  |succ k=>
   have:=Zr2 (k:=k) f.2 (by simpa using h)
   grind
def Qc(env:List (Nat×Nat))(o:Oper):Bool:=match o.op with
 |.load _ x=>(match Kz x with|some y=>(I1 y env).isSome|none=>false)
 |_=>false
def Gg(P:Program)(L:List Oper):List (Nat×Nat)→List Nat→Pl→Bool
 |_,a,.nil=>(List.range L.length).all fun j=>a.any (Nat.beq j)
 |env,a,.fst i rest=>(match Bw L i with
  |some b=>!(a.any (Nat.beq i))&&b.after.toList.all (fun e=>!Region.binds .any e||a.any (Nat.beq e.on))&&(match Ef P b||Qc env b with|true=>P8.chkV P L a i b 0 L|false=>NZ P L a i b 0 L)&&Gg P L (D0 P env b) (i::a) rest&&LR rest
  |none=>false)
 |env,a,.two i j x y=>(match Bw L i,Bw L j with
  |some b,some c=>b.after.toList.all (fun e=>!Region.binds .any e||a.any (Nat.beq e.on))&&!(a.any (Nat.beq i))&&!(a.any (Nat.beq j))&&S6 a i j 0 L&&Nat.beq x.len y.len&&Gg P L (D0 P env b) (i::a) x&&Gg P L (D0 P env c) (j::a) y&&LR x&&LR y
  |_,_=>false)
 |env,a,.opt hs i x y=>(match Bw L i with
  |some b=>b.after.toList.all (fun e=>!Region.binds .any e||a.any (Nat.beq e.on))&&!(a.any (Nat.beq i))&&Q6 a hs 0 L&&Gg P L (D0 P env b) (i::a) x&&LR x&&(!WC y||(Nat.beq y.len (x.len+1)&&Gg P L env a y))
  |none=>false)
def dM(o:Oper)(a b:Act):Prop:=∃u,∀x,b.eval x=(a.put o.dst u).eval x
theorem Vu{P:Program}{o:Oper}{a:Act}{w:World}{N:Act→World→Prop}{Q:Exit→Act→World→Prop}(h:o.wp P a w N Q):o.wp P a w (fun g w'=>N g w'∧dM o a g∧∀v b,(execOp a.eval o).run P w=.ok (.value v) b→g=a.put o.dst v) Q:=by
 unfold Oper.wp at*
 cases j:(execOp a.eval o).run P w with
 |ok n w'=>
  rw[j]at h
  cases n<;>simp only[Oper.upon]at h⊢
  case value u=>exact⟨h,⟨u,fun _=>rfl⟩,fun v b e=>by cases e;rfl⟩
  case skip=>exact⟨h,⟨_,fun _=>rfl⟩,fun v b e=>by cases e⟩
  case defer d=>exact⟨h,⟨Go.undef,fun x=>by cases o.dst<;>rfl⟩,fun v b e=>by cases e⟩
  case enter f args=>
   refine Calls.mono h fun e i he=>?_
   cases e with
   |returned u=>exact⟨he,⟨u,fun _=>rfl⟩,fun v b e=>by cases e⟩
   |panicked c=>exact he
   |outgrown=>exact he
  case row row args=>exact Rows.mono h fun u i he=>⟨he,⟨u,fun _=>rfl⟩,fun v b e=>by cases e⟩
 |halt x w'=>
  rw[j]at h
  cases x<;>simp only[Oper.upon]at h⊢
  grind
def JF(β:Nat→Nat)(env:List (Nat×Nat))(a:Act):Prop:=∀p∈env,∀b,pb (a.eval (.tmp p.1))=some b→b=β p.2
theorem eval_put(a:Act)(d j:Nat)(u:Value)(h:j≠d):(a.put (some d) u).eval (.tmp j)=a.eval (.tmp j):=by
 simp only[Act.put,Act.eval,Yz,NB]
 grind
theorem ZkB(a:Act)(d:Nat)(u:Value):(a.put (some d) u).eval (.tmp d)=u∨(a.put (some d) u).eval (.tmp d)=Go.undef:=by
 simp only[Act.put,Act.eval,Yz,NB]
 grind
theorem JF.put{P:Program}{β:Nat→Nat}{env:List (Nat×Nat)}{a i:Act}{o:Oper}{w:World}(j:JF β env a)(h:dM o a i)(x:∀z,Kw P o=some z→∃v n,(execOp a.eval o).run P w=.ok (.value v) n∧i=a.put o.dst v):JF β (D0 P env o) i:=by
 intro p c b f
 unfold D0 at c
 cases g:o.dst with
 |none=>
  rw[g]at c
  obtain⟨u,l⟩:=h
  rw[l,g]at f
  exact j p c b f
 |some d=>
  rw[g]at c
  rcases Hf.1 c with c|c
  ·cases hs:Kw P o with
   |none=>rw[hs]at c;cases c
   |some z=>
    rw[hs]at c
    dsimp only at c
    cases he:I1 z env with
    |none=>rw[he]at c;cases c
    |some r=>
     rw[he]at c
     rcases Hj.1 c with rfl
     obtain⟨v,n,q,s⟩:=x z hs
     rw[s,g]at f
     have Ax:pb v=some b:=by
      rcases ZkB a d v with e|e
      ·grind
      ·rw[e]at f;cases f
     exact j _ (Kg he) b (pS hs q Ax)
  ·obtain⟨t,m⟩:=Y6.1 c
   obtain⟨u,l⟩:=h
   have k:p.1≠d:=fun e=>by rw[e]at m;simp at m
   rw[l,g,eval_put a d p.1 u k]at f
   exact j p t b f
section
variable {P:Program} {Q:Exit→Act→World→Prop} {L:List Oper} {S:World→Prop}
theorem Znj{ops:Array Oper}{i:Nat}{m:Oper}{v:Value}(hi:ops[i]?=some m)(G:Dv P m=true)(O:∀(j:Nat) (o:Oper),ops[j]?=some o→o.guard=none)(q:∀(j:Nat) (o:Oper) cs b,ops[j]?=some o→o.op≠.select cs b)
  (hQ:∀c a w,¬Q (.panic c) a w) (T:¬LetsOut Q):∀(fuel:Nat) (d:Array Bool) (a:Act) (w:World),DC ops d→
   (∀j l,ops[j]?=some l→j≠i→d.getD j true=false→¬Waits ops j i→m.apart ops l=true∧(Dv P l||Jd l)=true)→
   i∈Region.ready .any ops d→(execOp a.eval m).run P w=.ok (.value v) w→S w→
   wpAnyH P .any ops Q S fuel (d.setIfInBounds i true) (a.put m.dst v) w→wpAnyH P .any ops Q S (fuel+1) d a w:=by
 have R:∀{a:Act} {w:World} {K:Act→World→Prop},(execOp a.eval m).run P w=.ok (.value v) w→K (a.put m.dst v) w→wpOp P ops Q i K a w:=fun hy h=>by
  unfold wpOp
  simp only[hi]
  rw[Yg (by simp[Region.wanted,O i m hi])]
  left
  unfold Oper.wp
  rw[hy]
  exact h
 intro fuel
 induction fuel with
 |zero=>
  intro d a w _ _ r hy U H
  refine⟨fun h=>(by rw[h]at r;cases r),fun j s=>?_⟩
  by_cases g:j=i
  ·grind
  ·have:=ready_mono s g
   rw[H.1]at this
   cases this
 |succ fuel W=>
  intro d a w L M r hy U H
  refine⟨fun h=>(by rw[h]at r;cases r),fun j s=>?_⟩
  by_cases g:j=i
  ·grind
  ·have e:=H.2 j (ready_mono s g)
   obtain⟨z,l,p,N⟩:=mem_ready.1 s
   have t:=(mem_ready.1 r).1
   obtain⟨B,F⟩:=M j l p g z (L.nowait s t)
   obtain⟨X,Y,Z⟩:=Oper.apart_spec B
   obtain⟨q1,q2⟩:=Zrt (P:=P) (ρ:=a.eval) F
   unfold wpOp at e⊢
   simp only[p]at e⊢
   have J:∀y,Region.wanted l y=true:=fun y=>by simp[Region.wanted,O j l p]
   rw[Yg (J _)]at e⊢
   rcases e with e|⟨_,e⟩
   case inr=>exact absurd e T
   left
   unfold Oper.wp at e⊢
   rw[execOp_put l (fun cs b=>q j l cs b p) a m.dst v X]at e
   cases f:(execOp a.eval l).run P w with
   |halt x w'=>
    rw[f]at e
    cases x<;>simp only[Oper.upon]at e
    grind
   |ok n w'=>
    have I:=q1 _ _ _ f
    obtain⟨u,rfl⟩:=q2 _ _ _ f
    rw[f]at e
    simp only[Oper.upon]at e⊢
    refine⟨e.1,W (d.setIfInBounds j true) (a.put l.dst u) w' (L.ready s) (fun k ok V D A E=>?_) (ready_mono r (Ne.symm g)) ?_ e.1 ?_⟩
    ·refine M k ok V D ?_ E
     by_cases C:j=k
     ·grind
     ·rw[getD_set_ne true C]at A;exact A
    ·rw[execOp_put m (fun cs b=>q i m cs b hi) a l.dst u Z];exact ZBy G _ _ _ _ hy I
    ·rw[oU _ _ g,←Act.put_comm a v u Y];exact e.2
theorem ZwV{β:Nat→Nat}{F:Nat→Prop}{w0:World}(hS0:∀b w,F b→S w→w.heap[b]?=w0.heap[b]?)(hC:∀b,F b→EU w0 b)(hu:∀(j:Nat) (o:Oper),L.toArray[j]?=some o→o.guard=none)(hsel:∀(j:Nat) (o:Oper) cs b,L.toArray[j]?=some o→o.op≠.select cs b)(hQ:∀c a w,¬Q (.panic c) a w)(hO:¬LetsOut Q):
  ∀(π:Pl) (env:List (Nat×Nat)) (d:List Nat) (g:Array Bool) (a:Act) (w:World),g.size=L.length→(∀j,j<L.length→(g.getD j true=true↔j∈d))→(∀x∈d,x<L.length)→DC L.toArray g→Gg P L env d π=true→(∀p∈env,F (β p.2))→JF β env a→S w→
   Er P L Q S π a w→(LR π=true→wpAnyH P .any L.toArray Q S π.len g a w)∧
    ∀k∈RY π,wpOp P L.toArray Q k (fun B w'=>S w'∧wpAnyH P .any L.toArray Q S (π.len-1) (g.setIfInBounds k true) B w') a w:=by
 have un:∀(g:Array Bool) (d:List Nat) (i:Nat),(∀j,j<L.length→(g.getD j true=true↔j∈d))→i<L.length→d.any (Nat.beq i)=false→g.getD i true=false:=fun g d i hl O c1=>by
  cases hb:g.getD i true with
  |false=>rfl
  |true=>have:=Gb.2 ((hl i O).1 hb);rw[c1]at this;cases this
 have next:∀(g:Array Bool) (d:List Nat) (i:Nat),g.size=L.length→(∀j,j<L.length→(g.getD j true=true↔j∈d))→∀j,j<L.length→((g.setIfInBounds i true).getD j true=true↔j∈i::d):=fun g d i hs hl j Z=>by
  by_cases s:i=j
  ·subst s
   simp only[YG,true_or,iff_true]
   simp[hs,Z]
  ·rw[getD_set_ne true s,hl j Z,YG]
   exact⟨.inr,fun h=>h.resolve_left (Ne.symm s)⟩
 have rdy:∀(g:Array Bool) (d:List Nat) (i:Nat) (l:Oper),g.size=L.length→(∀j,j<L.length→(g.getD j true=true↔j∈d))→(∀x∈d,x<L.length)→L[i]?=some l→d.any (Nat.beq i)=false→
   l.after.toList.all (fun e=>!Region.binds .any e||d.any (Nat.beq e.on))=true→i∈Region.ready .any L.toArray g:=fun g d i l hs hl q hi c1 c2=>
  mem_ready.2 ⟨un g d i hl (Yd.1 hi).1 c1,l,by simpa using hi,fun e he hb=>by
   have h1:=Yq.1 c2 e (by simpa using he)
   rw[hb]at h1
   simp only[Y5,Jn]at h1
   have hm:=Gb.1 h1
   have h2:=q _ hm
   have A:=(hl _ h2).2 hm
   simp only[Yz]at A⊢
   rw[Yp (by omega)]at A⊢
   simpa using A⟩
 have V:∀(env:List (Nat×Nat)) (o:Oper),(∀p∈env,F (β p.2))→∀p∈D0 P env o,F (β p.2):=fun env o Y p hp=>by
  unfold D0 at hp
  split at hp
  ·exact Y p hp
  ·rcases Hf.1 hp with hp|hp
   ·split at hp
    ·split at hp
     ·rename_i r M
      have e:=Hj.1 hp
      rw[e]
      have:=Y _ (Kg M)
      exact this
     ·cases hp
    ·cases hp
   ·exact Y p (Y6.1 hp).1
 have G:∀(env:List (Nat×Nat)) (o:Oper) (a B:Act) (w:World) (N:Act→World→Prop),o.wp P a w N Q→JF β env a→dM o a B→(∀v w1,(execOp a.eval o).run P w=.ok (.value v) w1→B=a.put o.dst v)→JF β (D0 P env o) B:=fun env o a B w N hw W h1 h2=>by
  refine W.put (P:=P) (w:=w) h1 fun z hz=>?_
  have hv:Ef P o=true:=by unfold Kw at hz;cases hv:Ef P o with|true=>rfl|false=>rw[hv]at hz;cases hz
  obtain⟨v1,v2⟩:=Uf (P:=P) (ρ:=a.eval) hv
  unfold Oper.wp at hw
  cases f:(execOp a.eval o).run P w with
  |halt x w'=>
   rw[f]at hw
   cases x<;>simp only[Oper.upon]at hw
   exact absurd hw (hQ _ _ _)
  |ok n w'=>
   obtain⟨u,rfl⟩:=v2 _ _ _ f
   exact⟨u,w',rfl,h2 u w' f⟩
 intro π
 induction π with
 |nil=>
  intro env d g a w hs hl q hD D Y W hS h
  unfold Gg at D
  rw[Yq]at D
  refine⟨fun _=>⟨?_,h⟩,fun k H=>by cases H⟩
  cases M:Region.ready .any L.toArray g with
  |nil=>rfl
  |cons x xs=>
   have hx:x∈Region.ready .any L.toArray g:=by rw[M];exact YB ..
   obtain⟨X,o,ho,_⟩:=mem_ready.1 hx
   have q:x<L.length:=by have:=(Y0.1 ho).1;simpa using this
   have:=(hl x q).2 (Gb.1 (D x (Lj.2 q)))
   rw[X]at this
   cases this
 |two i j x y ihx ihy=>
  intro env d g a w hs hl q hD D Y W hS h
  unfold Gg at D
  unfold Er at h
  cases hi:L[i]? with
  |none=>rw[Ct,hi]at D;simp at D
  |some l=>
   cases Z:L[j]? with
   |none=>rw[Ct,Ct,hi,Z]at D;simp at D
   |some K=>
    rw[Ct,Ct,hi,Z]at D h
    dsimp only at h
    simp only[Yc,YN]at D
    obtain⟨⟨⟨⟨⟨⟨⟨⟨c0,c1⟩,c2⟩,c5⟩,c6⟩,c7⟩,c8⟩,cx⟩,cy⟩:=D
    refine⟨fun _=>?_,fun k H=>by cases H⟩
    have O:i<L.length:=(Yd.1 hi).1
    have hjL:j<L.length:=(Yd.1 Z).1
    obtain⟨h1,h2⟩:=h
    have lt':∀k,k<L.length→∀z∈k::d,z<L.length:=fun k H z hz=>by
     rcases YG.1 hz with rfl|hz
     ·exact H
     ·exact q z hz
    show wpAnyH P .any L.toArray Q S (x.len+1) g a w
    have hready:∀k∈Region.ready .any L.toArray g,k=i∨k=j:=fun k H=>by
     obtain⟨k0,ok,hok,hall⟩:=mem_ready.1 H
     have hkl:k<L.length:=by have:=(Y0.1 hok).1;simpa using this
     have:=Zr2 (k:=k) c5 (by simpa using hok)
     rw[YJ]at this
     rcases this with A|A|A|⟨e,he,hb,I⟩
     ·have:=(hl k hkl).2 A;rw[k0]at this;cases this
     ·exact .inl A
     ·exact .inr A
     ·have T:=hall e he hb
      have h5:e.on<L.length:=by
       rcases YH e.on g.size with h|h
       ·omega
       ·simp[F7 h,Yz]at T
      refine absurd ((hl e.on h5).1 ?_) I
      simp only[Yz]at T⊢
      rw[Yp (by omega)]at T⊢
      simpa using T
    have M:=rdy g d i l hs hl q hi c1 c0
    refine⟨fun X=>(by rw[X]at M;cases M),fun k H=>?_⟩
    rcases hready k H with rfl|rfl
    ·unfold wpOp
     have R:L.toArray[k]?=some l:=by simpa using hi
     simp only[R]
     rw[Yg (by simp[Region.wanted,hu k _ R])]
     exact .inl (Oper.wp_mono (fun B w' m=>⟨m.1.1,(ihx (D0 P env l) (k::d) _ B w' (by simp[hs]) (next g d k hs hl) (lt' k O) (hD.ready H) c7 (V env l Y) (G env l a B w _ h1 W m.2.1 m.2.2) m.1.1 m.1.2).1 cx⟩) (Vu h1))
    ·unfold wpOp
     have R:L.toArray[k]?=some K:=by simpa using Z
     simp only[R]
     rw[Yg (by simp[Region.wanted,hu k _ R])]
     rw[Yb c6]
     exact .inl (Oper.wp_mono (fun B w' m=>⟨m.1.1,(ihy (D0 P env K) (k::d) _ B w' (by simp[hs]) (next g d k hs hl) (lt' k hjL) (hD.ready H) c8 (V env K Y) (G env K a B w _ h2 W m.2.1 m.2.2) m.1.1 m.1.2).1 cy⟩) (Vu h2))
 |opt hh0 i x y ihx ihy=>
  intro env d g a w hs hl q hD D Y W hS h
  unfold Gg at D
  unfold Er at h
  cases hi:L[i]? with
  |none=>rw[Ct,hi]at D;simp at D
  |some l=>
   rw[Ct,hi]at D h
   dsimp only at h
   simp only[Yc,YN,YF]at D
   obtain⟨⟨⟨⟨⟨c0,c1⟩,c5⟩,c7⟩,cx⟩,cy⟩:=D
   have O:i<L.length:=(Yd.1 hi).1
   obtain⟨h1,h2⟩:=h
   have lt':∀k,k<L.length→∀z∈k::d,z<L.length:=fun k H z hz=>by
    rcases YG.1 hz with rfl|hz
    ·exact H
    ·exact q z hz
   have M:=rdy g d i l hs hl q hi c1 c0
   have hB:∀k∈RY (.opt hh0 i x y),wpOp P L.toArray Q k (fun B w'=>S w'∧wpAnyH P .any L.toArray Q S x.len (g.setIfInBounds k true) B w') a w:=fun k H=>by
    rcases YG.1 H with rfl|H
    ·unfold wpOp
     have R:L.toArray[k]?=some l:=by simpa using hi
     simp only[R]
     rw[Yg (by simp[Region.wanted,hu k _ R])]
     exact .inl (Oper.wp_mono (fun B w' m=>⟨m.1.1,(ihx (D0 P env l) (k::d) _ B w' (by simp[hs]) (next g d k hs hl) (lt' k O) (hD.ready M) c7 (V env l Y) (G env l a B w _ h1 W m.2.1 m.2.2) m.1.1 m.1.2).1 cx⟩) (Vu h1))
    ·have hy:WC y=true:=by cases y with|opt _ _ _ _=>rfl|_=>cases H
     rcases cy with cy|⟨cy,cz⟩
     ·rw[hy]at cy;cases cy
     ·have:=(ihy env d g a w hs hl q hD cz Y W hS (h2 hy)).2 k H
      rw[Yb cy,Nat.add_sub_cancel]at this
      exact this
   refine⟨fun hcov=>?_,hB⟩
   show wpAnyH P .any L.toArray Q S (x.len+1) g a w
   refine⟨fun X=>(by rw[X]at M;cases M),fun k H=>hB k ?_⟩
   obtain⟨k0,ok,hok,hall⟩:=mem_ready.1 H
   have hkl:k<L.length:=by have:=(Y0.1 hok).1;simpa using this
   have:=ZnK (k:=k) c5 (by simpa using hok)
   rw[YJ]at this
   rcases this with A|A|⟨e,he,hb,I⟩
   ·have:=(hl k hkl).2 A;rw[k0]at this;cases this
   ·exact Gb.1 (Yq.1 hcov k A)
   ·have T:=hall e he hb
    have h5:e.on<L.length:=by
     rcases YH e.on g.size with h|h
     ·omega
     ·simp[F7 h,Yz]at T
    refine absurd ((hl e.on h5).1 ?_) I
    simp only[Yz]at T⊢
    rw[Yp (by omega)]at T⊢
    simpa using T
 |fst i rest ih=>
  intro env d g a w hs hl q hD D Y W hS h
  unfold Gg at D
  unfold Er at h
  cases hi:L[i]? with
  |none=>rw[Ct,hi]at D;simp at D
  |some l=>
   rw[Ct,hi]at D h
   dsimp only at h
   simp only[Yc,YN]at D
   obtain⟨⟨⟨⟨c1,c2⟩,c3⟩,c4⟩,c9⟩:=D
   refine⟨fun _=>?_,fun k H=>by cases H⟩
   have O:i<L.length:=(Yd.1 hi).1
   have U:L.toArray[i]?=some l:=by simpa using hi
   have hun:=un g d i hl O c1
   have M:=rdy g d i l hs hl q hi c1 c2
   have hlt':∀x∈i::d,x<L.length:=fun x hx=>by
    rcases YG.1 hx with rfl|hx
    ·exact O
    ·exact q x hx
   have ih:∀B w',S w'→JF β (D0 P env l) B→Er P L Q S rest B w'→wpAnyH P .any L.toArray Q S rest.len (g.setIfInBounds i true) B w':=fun B w' hS' hJ' h=>
    (ih (D0 P env l) (i::d) _ B w' (by simp[hs]) (next g d i hs hl) hlt' (hD.ready M) c4 (V env l Y) hJ' hS' h).1 c9
   have hli:∀j,j<L.length→g.getD j true=false→j∉d:=fun j Z hun hm=>by
    have:=(hl j Z).2 hm
    rw[hun]at this
    cases this
   have free:P8.chkV P L d i l 0 L=true→∀j K,L.toArray[j]?=some K→j≠i→g.getD j true=false→(∀e∈K.after,Region.binds .any e=true→e.on≠i)→l.apart L.toArray K=true:=fun c3 j K J s E I=>by
    have hjl:j<L.length:=by have:=(Y0.1 J).1;simpa using this
    have:=ZvJ (k:=j) c3 (by simpa using J)
    rw[YJ]at this
    rcases this with A|A|⟨e,he,hb,he2⟩|A
    ·exact absurd A (hli j hjl E)
    ·exact absurd A s
    ·exact absurd he2 (I e he hb)
    ·exact A
   show wpAnyH P .any L.toArray Q S (rest.len+1) g a w
   have h':=Vu h
   by_cases hv:Ef P l=true
   ·rw[hv]at c3
    simp only[NH]at c3
    obtain⟨v1,v2⟩:=Uf (P:=P) (ρ:=a.eval) hv
    have X:=h
    unfold Oper.wp at h
    cases f:(execOp a.eval l).run P w with
    |halt x w'=>
     rw[f]at h
     cases x<;>simp only[Oper.upon]at h
     exact absurd h (hQ _ _ _)
    |ok n w'=>
     obtain⟨rfl,v3⟩:=v1 _ _ _ f
     obtain⟨u,rfl⟩:=v2 _ _ _ f
     rw[f]at h
     simp only[Oper.upon]at h
     exact wpAnyH_first U hsel (fun c a w hq=>absurd hq (hQ _ _ _)) rest.len g a w' (free c3) M (.inl ⟨by simp[Region.wanted,hu i l U],fun w2 _=>v3 w2⟩) hS (ih _ _ h.1 (G env l a _ w' _ X W ⟨u,fun _=>rfl⟩ fun v w1 e=>by rw[f]at e;cases e;rfl) h.2)
   ·have hv':Ef P l=false:=by cases hq:Ef P l with|false=>rfl|true=>exact absurd hq hv
    rw[hv',Jn]at c3
    by_cases m:Qc env l=true
    ·rw[m]at c3
     obtain⟨t,x,y,r,ho,hy,he⟩:∃t x y r,l.op=.load t x∧Kz x=some y∧I1 y env=some r:=by
      unfold Qc at m
      split at m
      ·rename_i t x ho
       split at m
       ·rename_i y hy
        obtain⟨r,M⟩:=F6.1 m
        exact⟨t,x,y,r,ho,hy,M⟩
       ·cases m
      ·cases m
     have hrd:Dv P l=true:=by unfold Dv;rw[hv',ho];rfl
     obtain⟨v1,v2⟩:=O2 (P:=P) (ρ:=a.eval) hrd
     have X:=h
     unfold Oper.wp at h
     cases f:(execOp a.eval l).run P w with
     |halt x w'=>
      rw[f]at h
      cases x<;>simp only[Oper.upon]at h
      exact absurd h (hQ _ _ _)
     |ok n w'=>
      have e:=v1 _ _ _ f
      subst e
      obtain⟨u,rfl⟩:=v2 _ _ _ f
      rw[f]at h
      simp only[Oper.upon]at h
      have hyl:YieldsIf P L.toArray S l u a:=.inl ⟨by simp[Region.wanted,hu i l U],fun w2 hS2=>by
       obtain⟨b,hb,hlo⟩:=ZMa (w2:=w2) ho f
       have hb':b=β r:=W _ (Kg he) b (by rw[←TW hy];exact hb)
       have hFb:F b:=by rw[hb'];exact Y _ (Kg he)
       have e1:=hS0 b w' hFb hS
       have e2:=hS0 b w2 hFb hS2
       obtain⟨C,q1,q2,q3⟩:=hC b hFb
       exact hlo ⟨C,q1,q2,by rw[e1];exact q3⟩ (by rw[e1,e2])⟩
      exact wpAnyH_first U hsel (fun c a w hq=>absurd hq (hQ _ _ _)) rest.len g a w' (free c3) M hyl hS (ih _ _ h.1 (G env l a _ w' _ X W ⟨u,fun _=>rfl⟩ fun v w1 e=>by rw[f]at e;cases e;rfl) h.2)
    ·have hh':Qc env l=false:=by cases hq:Qc env l with|false=>rfl|true=>exact absurd hq m
     rw[hh']at c3
     have at_:∀j K,L.toArray[j]?=some K→j≠i→g.getD j true=false→¬Waits L.toArray j i→l.apart L.toArray K=true∧Dv P l=true∧(Dv P K||Jd K)=true:=fun j K J s E I=>by
      have hjl:j<L.length:=by have:=(Y0.1 J).1;simpa using this
      have:=ZxC (k:=j) c3 (by simpa using J)
      rw[YJ]at this
      rcases this with A|A|A|⟨A,T⟩
      ·exact absurd A (hli j hjl E)
      ·exact absurd A s
      ·exact absurd A I
      ·rcases T with T|T
       ·exact absurd T hv
       ·exact⟨A,T⟩
     by_cases hrd:Dv P l=true
     ·obtain⟨v1,v2⟩:=O2 (P:=P) (ρ:=a.eval) hrd
      have X:=h
      unfold Oper.wp at h
      cases f:(execOp a.eval l).run P w with
      |halt x w'=>
       rw[f]at h
       cases x<;>simp only[Oper.upon]at h
       exact absurd h (hQ _ _ _)
      |ok n w'=>
       have e:=v1 _ _ _ f
       subst e
       obtain⟨u,rfl⟩:=v2 _ _ _ f
       rw[f]at h
       simp only[Oper.upon]at h
       exact Znj U hrd hu hsel hQ hO rest.len g a w' hD (fun j K J s E I=>⟨(at_ j K J s E I).1,(at_ j K J s E I).2.2⟩) M f hS (ih _ _ h.1 (G env l a _ w' _ X W ⟨u,fun _=>rfl⟩ fun v w1 e=>by rw[f]at e;cases e;rfl) h.2)
     ·refine⟨fun X=>(by rw[X]at M;cases M),fun j Z=>?_⟩
      have s:j=i:=by
       apply ND
       intro s
       obtain⟨E,K,J,_⟩:=mem_ready.1 Z
       exact hrd (at_ j K J s E (hD.nowait Z hun)).2.1
      subst s
      unfold wpOp
      simp only[U]
      rw[Yg (by simp[Region.wanted,hu j l U])]
      exact .inl (Oper.wp_mono (fun B w' m=>⟨m.1.1,ih B w' m.1.1 (G env l a B w _ h W m.2.1 m.2.2) m.1.2⟩) h')
end
def Ib(r:Ren):List (Ad×Blk)→Prop
 |[]=>True
 |(k,_)::t=>match Nat.beq k.1 1 with|true=>Ib r t|false=>Lb r k∧Ib r t
def S5:List (Ad×Blk)→Hp→Hp
 |[],H=>H
 |(k,b)::t,H=>S5 t (updH H k b)
def pHc(P:Program)(l n os:Nat)(r:Ren)(c:Option Nat)(d:AV)(xs:List AV)(a:AT)(K:St→AT→Prop)(τ:St):Prop:=
 match d,a with
 |.fn (.func f) [] [],.hard x ks Ax [] b=>(match ks.all (BS os),DJ os Ax with
  |true,true=>HO P l r f xs (ks.map fun k=>(k,τ.H k)) x Ax []∧Ib r Ax∧R7 n K τ.s (S5 Ax τ.H) x b c
  |_,_=>False)
 |_,_=>False
def ZOq:AT→Bool
 |.hard _ _ _ _ _=>true
 |_=>false
def J0(P:Program)(T:Nat→Option TI)(l n os:Nat)(r:Ren)(o:Oper)(a:AT)(K:St→AT→Prop)(τ:St):Prop:=
 match ZOq a,o.op with
 |true,.call c=>(match c.callee with
  |.value b=>pHc P l n os r o.dst (ev τ.s b) (c.args.toList.map (ev τ.s)) a K τ
  |_=>False)
 |_,_=>Hv P T l n r o a K τ
section
variable {P:Program} {T:Nat→Option TI} {r:Ren} {l n outs:Nat} {B:Base} {env:B4} {τ σ:St} {a:AT} {o:Oper} {K:St→AT→Prop}
theorem ZoC(f:RenOk r l outs):∀(Ax:List (Ad×Blk)) {τ σ:St},DJ outs Ax=true→Ib r Ax→RG r l outs env τ σ→RG r l outs env ⟨τ.s,S5 Ax τ.H⟩ ⟨σ.s,Do r Ax σ.H⟩
 |[],τ,σ,_,_,h=>h
 |(k,b)::t,τ,σ,e,a,h=>by
  simp only[DJ,Yc]at e
  obtain⟨⟨⟨i,j⟩,n⟩,m⟩:=e
  have d:JW r outs k∧Ib r t:=by
   unfold Ib at a
   rcases Gf i with c|⟨c,g⟩
   ·rw[c]at a;exact⟨.inl c,a⟩
   ·rw[c]at a;exact⟨.inr ⟨c,g,a.1.2⟩,a.2⟩
  exact ZoC f t (τ:=⟨τ.s,updH τ.H k b⟩) (σ:=⟨σ.s,updH σ.H (r.κ k) (AL r k b)⟩) m d.2 (RG.updH f h k b j d.1)
theorem OL(E:RenOk r l outs)(N:Bg P T)(h:RG r l outs env τ σ)(t:Ch env [] o.op=true)(G:FE env o.dst=true)(d:J0 P T l n outs r o a K τ):Ca P l n B o (KA r l n outs B (DA env o.dst) K) σ:=by
 unfold J0 at d
 split at d
 case h_2=>exact ZoH E N h t G d
 rename_i c S H
 split at d
 case h_2=>exact d.elim
 rename_i s e
 unfold pHc at d
 split at d
 case h_2=>exact d.elim
 rename_i f x ks Ax b C
 split at d
 case h_2=>exact d.elim
 rename_i D j
 obtain⟨L,z,M⟩:=d
 have ops:∀x∈o.op.operands,ev σ.s x=ren r (ev τ.s x):=by
  unfold Ch at t
  split at t
  ·grind
  ·exact Ga h Ba t
 rw[H]at ops
 have g:∀x,x=s∨x∈c.args.toList→x∈(Op.call c).operands:=fun x U=>by
  simp only[Op.operands,Call.operands,e]
  grind
 have A:ev σ.s s=.fn (.func f) [] []:=by rw[ops s (g s (.inl rfl)),C];simp[ren,Aq]
 have F:=L σ.H (fun p d=>by
  obtain⟨q,O,rfl⟩:=YI.1 d
  have m:=Gf (Yq.1 D q O)
  refine⟨?_,fun hl=>h.h q hl⟩
  obtain⟨V,I⟩:=q
  simp only at m
  rcases m with rfl|⟨rfl,z⟩
  ·have:=h.g I
   rw[←E.own]at this
   exact this
  ·exact h.go I z) h.o
 have i:Aq r (c.args.toList.map (ev τ.s))=c.args.toList.map (ev σ.s):=by
  rw[FA,Il]
  exact Y9 fun y hy=>(ops y (g y (.inr hy))).symm
 refine Mg ?_
 unfold BI
 rw[H]
 simp only[e,A,Ip,Iq]
 rw[i]at F
 refine F.mono fun y u ⟨R,J,v,w⟩=>?_
 have Q:R=r.γ:=funext fun k=>J k (by simp)
 subst Q
 have v:y=ren r x:=v
 have w:u=Do r Ax σ.H:=w
 subst w
 exact Zud (τ':=⟨τ.s,S5 Ax τ.H⟩) G (ZoC E Ax j z h) v M
end
def Gw(P:Program)(T:Nat→Option TI)(l n os:Nat)(r:Ren)(L:List Oper):Pl→B4→AT→(St→B4→AT→Prop)→St→Prop
 |.nil,env,a,K,τ=>K τ env a
 |.fst i x,env,a,K,τ=>match Bw L i with
  |some o=>(match Ch env [] o.op,FE env o.dst with
   |true,true=>J0 P T l n os r o a (fun τ' b=>Gw P T l n os r L x (DA env o.dst) b K τ') τ
   |_,_=>False)
  |none=>False
 |.two i j x y,env,a,K,τ=>match Bw L i,Bw L j,a with
  |some o,some c,.br a1 d=>(match Ch env [] o.op,FE env o.dst,Ch env [] c.op,FE env c.dst with
   |true,true,true,true=>J0 P T l n os r o a1 (fun τ' b=>Gw P T l n os r L x (DA env o.dst) b K τ') τ∧J0 P T l n os r c d (fun τ' b=>Gw P T l n os r L y (DA env c.dst) b K τ') τ
   |_,_,_,_=>False)
  |_,_,_=>False
 |.opt _ i x y,env,a,K,τ=>match Bw L i with
  |some o=>(match Ch env [] o.op,FE env o.dst with
   |true,true=>(match WC y with
    |true=>(match a with
     |.br a1 d=>J0 P T l n os r o a1 (fun τ' b=>Gw P T l n os r L x (DA env o.dst) b K τ') τ∧Gw P T l n os r L y env d K τ
     |_=>False)
    |false=>J0 P T l n os r o a (fun τ' b=>Gw P T l n os r L x (DA env o.dst) b K τ') τ)
   |_,_=>False)
  |none=>False
section
variable {P:Program} {T:Nat→Option TI} {r:Ren} {l n outs:Nat} {B:Base}
theorem ZsC(v:RenOk r l outs)(t:Bg P T){L:List Oper}{K:St→B4→AT→Prop}{QQ:Exit→Act→World→Prop}{S:World→Prop}(O:∀σ a w,R l n B σ a w→S w)
  (M:∀τ' k p m c w',K τ' k p→RG r l outs k τ' m→R l n B m c w'→QQ .normal c w'):
  ∀(π:Pl) (env:B4) (a:AT) (τ σ:St) (b:Act) (w:World),Gw P T l n outs r L π env a K τ→RG r l outs env τ σ→R l n B σ b w→Er P L QQ S π b w:=by
 intro π
 induction π with
 |nil=>intro env a τ σ b w h d e;exact M _ _ _ _ _ _ h d e
 |fst i x Q=>
  intro env a τ σ b w h d e
  unfold Gw at h
  split at h
  ·rename_i o u
   unfold Er
   rw[u]
   split at h
   ·rename_i q s
    refine Oper.wp_mono (fun c w' f=>?_) (OL (B:=B) v t d q s h b w e QQ)
    obtain⟨m,⟨g,⟨τ',p,A,C⟩,D⟩,E⟩:=f
    grind
   grind
  grind
 |two i j x y I z=>
  intro env a τ σ b w h d e
  unfold Gw at h
  split at h
  ·rename_i o U a1 N u H
   unfold Er
   rw[u,H]
   split at h
   ·rename_i q s F G
    refine⟨Oper.wp_mono (fun c w' f=>?_) (OL (B:=B) v t d q s h.1 b w e QQ),Oper.wp_mono (fun c w' f=>?_) (OL (B:=B) v t d F G h.2 b w e QQ)⟩
    ·obtain⟨m,⟨g,⟨τ',p,A,C⟩,D⟩,E⟩:=f
     grind
    ·obtain⟨m,⟨g,⟨τ',p,A,C⟩,D⟩,E⟩:=f
     grind
   grind
  grind
 |opt hs i x y I z=>
  intro env a τ σ b w h d e
  unfold Gw at h
  split at h
  ·rename_i o u
   unfold Er
   rw[u]
   split at h
   ·rename_i q s
    split at h
    ·split at h
     ·refine⟨Oper.wp_mono (fun c w' f=>?_) (OL (B:=B) v t d q s h.1 b w e QQ),fun _=>z _ _ _ _ _ _ h.2 d e⟩
      obtain⟨m,⟨g,⟨τ',p,A,C⟩,D⟩,E⟩:=f
      grind
     grind
    ·rename_i hy
     refine⟨Oper.wp_mono (fun c w' f=>?_) (OL (B:=B) v t d q s h b w e QQ),fun J=>by rw[hy]at J;cases J⟩
     obtain⟨m,⟨g,⟨τ',p,A,C⟩,D⟩,E⟩:=f
     grind
   grind
  grind
end
def zB(s:Nat→AV):List Nat→Bool
 |[]=>true
 |z::r=>(match s z with|.iptr (_::_) _=>true|_=>false)&&zB s r
theorem yV{s:Nat→AV}:∀{Z:List Nat},zB s Z=true→∀z∈Z,∃x ds off,s z=.iptr (x::ds) off
 |[],_,z,a=>by cases a
 |y::r,h,z,a=>by
  simp only[zB,Yc]at h
  rcases YG.1 a with rfl|a
  ·grind
  ·exact yV h.2 z a
def vf(P:Program)(π:Pl)(Z:List Nat):Code→Bool
 |.region _ ops true=>ops.toList.all WY&&Nat.beq π.len ops.toList.length&&Gg P ops.toList (Z.map fun z=>(z,z)) [] π&&LR π
 |_=>false
section
variable {P:Program} {T:Nat→Option TI} {n:Nat} {C:Cx} {τ:St} {Q:Exit→St→Prop} {os:Nat} {c:Code} {β:Type} {L:β→Prop} {y:β}
theorem Fg{fx:List Nat}(co:COx C os fx)(hT:Bg P T)(hm':P.follows .mixedOrders=true)(π:Pl)(Z:List Nat)(v:PT os β)(lf:Lf)(hv:v.m=some y)(hL:HL L y)(hn:∀r (g:Gd C r),v.n ⟨⟨C.l,r,Q,fun _ _=>False⟩,L,C,_,co,g,rfl⟩)
  (hq:∀l r Q A,Bu r os v.a τ (fun τ a=>match zB τ.s Z with|true=>Gw P T l n os r (Cu c).toList π [] a (fun τ' env f=>Bu r os f (El env τ') (fun τ _=>FL fx lf τ (Q .normal))) τ|false=>False)=v.q ⟨l,r,Q,A⟩:=by intro l r Q P;kernel_rfl)
  (hk:vf P π Z c=true:=by kernel_rfl):LW P n C c τ Q:=by
 cases c with
 |region id ops dr=>
  cases dr with
  |false=>cases hk
  |true=>
   obtain⟨q,rfl⟩:∃l:List Oper,ops=l.toArray:=⟨ops.toList,by simp⟩
   simp only[vf,Yc]at hk
   obtain⟨⟨⟨k1,k2⟩,k3⟩,k4⟩:=hk
   intro γ σ hg hG a w hR
   have hR':R C.l n C.B σ a {w with drawn:=w.drawn+1 }:=by
    obtain⟨s,H⟩:=σ
    obtain⟨m,S,hO,hn,hdf,hS,hex⟩:=hR.un
    obtain⟨k,u⟩:=hO.drew (w':={w with drawn:=w.drawn+1 }) rfl rfl rfl rfl
    exact R.keep k hn hdf hS hex u
   have k:=v.ok _ (hn (C.r γ) ⟨rfl,rfl,rfl,rfl⟩) y hv hL
   rw[←hq]at k
   generalize v.a=va at k
   have ok:=co.ok
   rw[←co.O,←co.F]at k
   obtain⟨τ₁,a₁,σ₁,u,G,hw1⟩:=Cn (n:=n) ok va k hG
   split at u
   case h_2=>exact u.elim
   rename_i hz
   have hR1:=hw1 _ _ hR'
   obtain⟨s1,H1⟩:=σ₁
   obtain⟨m1,D,hO1,hn1,hd1,t,J⟩:=hR1.un
   let V:Base:=⟨H1,m1,D,{w with drawn:=w.drawn+1 }⟩
   have hRB:R C.l n V ⟨s1,H1⟩ a {w with drawn:=w.drawn+1 }:=⟨m1,D,hO1,hn1,hd1,t,Ext.refl _ _ _ _ _⟩
   have E:∀d f w',R C.l n V d f w'→R C.l n C.B d f w':=fun d f w' h=>by
    obtain⟨m2,S2,W,X,g3,g4,g5⟩:=h
    exact⟨m2,S2,W,X,g3,g4,J.trans g5⟩
   let S:World→Prop:=fun w'=>∀b,D b→w'.heap[b]?=({w with drawn:=w.drawn+1 }:World).heap[b]?
   have hS1:∀d f w',R C.l n V d f w'→S w':=fun d f w' h b i=>by
    obtain⟨m2,S2,W,X,g3,g4,g5⟩:=h
    exact g5.blk b i
   have I:∀(j:Nat) (o:Oper),q.toArray[j]?=some o→WY o=true:=fun j o M=>Yq.1 k1 o (Yk (by simpa using M))
   have hu:∀(j:Nat) (o:Oper),q.toArray[j]?=some o→o.guard=none:=fun j o M=>by
    have:=I j o M
    unfold WY at this
    rw[Yc]at this
    cases hg:o.guard with
    |none=>rfl
    |some _=>rw[hg]at this;simp at this
   have N:∀(j:Nat) (o:Oper) cs b,q.toArray[j]?=some o→o.op≠.select cs b:=fun j o cs b M he=>by
    have:=I j o M
    unfold WY at this
    rw[he,Yc]at this
    simp at this
   let Q2:Exit→Act→World→Prop:=fun e f w'=>∃d,Is n C (match e with|.normal=>Q .normal|_=>fun _=>False) d∧R C.l n C.B d f w'
   have hpl:Er P q Q2 S π a {w with drawn:=w.drawn+1 }:=by
    refine ZsC (ok.ren γ) hT (B:=V) hS1 (fun τ' env' f d act' w' k1 k2 k3=>?_) π [] a₁ τ₁ ⟨s1,H1⟩ a _ u G hRB
    obtain⟨σ₂,W,X⟩:=OI (n:=n) k2
    obtain⟨τ₃,a₃,σ₃,f1,f2,f3⟩:=Cn (n:=n) ok f k1 W
    obtain⟨γ',τ₄,σ₄,j0,j1,j2,j3⟩:=Hx (n:=n) ok f1 hg f2
    exact⟨σ₄,⟨γ',τ₄,σ₄,j0,j1,j2,Wk.refl _⟩,j3 _ _ (f3 _ _ (X _ _ (E _ _ _ k3)))⟩
   have hF:∀z∈Z,∃b,pb (a.eval (.tmp z))=some b∧D b∧EU {w with drawn:=w.drawn+1 } b:=fun z hz'=>by
    obtain⟨x,ds,off,e⟩:=yV hz z hz'
    have hsz:s1 z=.iptr (x::ds) off:=by
     have:=(G.s z).1 Ba
     simp only at this
     rw[this,e];simp[ren]
    have O:=t z
    rw[hsz]at O
    show∃b,pb (a.tmps.getD z Go.undef)=some b∧_
    generalize a.tmps.getD z Go.undef=vv at O
    cases O with
    |iptr _ _ ad c i hc hr=>
     refine⟨(ad.add off).block,rfl,by rw[block_add];exact i,?_⟩
     rw[block_add]
     have Y:=hc 0 x rfl
     simp only[World.cell?]at Y
     have hbk:(ad.add 0).block=ad.block:=block_add _ _
     rw[hbk]at Y
     split at Y
     ·rename_i C0 e0 f0 hh;exact⟨C0,e0,f0,hh⟩
     ·cases Y
   have hw:=ZwV (P:=P) (L:=q) (Q:=Q2) (S:=S) (β:=fun z=>(pb (a.eval (.tmp z))).getD 0) (F:=fun b=>D b∧EU {w with drawn:=w.drawn+1 } b) (w0:={w with drawn:=w.drawn+1 }) (fun b w' i hS=>hS b i.1) (fun b i=>i.2) hu N
    (fun c a w ⟨d,⟨_,_,_,_,K,_⟩,_⟩=>K) (fun⟨a,w,d,⟨_,_,_,_,K,_⟩,_⟩=>K) π (Z.map fun z=>(z,z)) [] (Array.replicate q.toArray.size false) a {w with drawn:=w.drawn+1 } (by simp) (fun j hj=>by simp[hj]) (fun x O=>by cases O)
    (fun m om hm hl=>by
     have:(Array.replicate q.toArray.size false).getD m false=false:=by
      simp only[Yz,Array.getElem?_replicate]
      split<;>rfl
     rw[this]at hl
     cases hl) (by simpa using k3)
    (fun p hp=>by
     obtain⟨z,U,rfl⟩:=YI.1 hp
     obtain⟨b,b1,b2⟩:=hF z U
     simp only[b1,YU];exact b2)
    (fun p hp b i=>by
     obtain⟨z,U,rfl⟩:=YI.1 hp
     simp only at i
     simp only[i,YU]) (fun b i=>rfl) hpl
   have hs:π.len=q.toArray.size:=by simpa using Yb k2
   rw[hs]at hw
   refine wp_mono (wp_region_held hm' (hw.1 k4)) fun e f w' ⟨d,k,u⟩=>⟨d,?_,u⟩
   cases e with
   |normal=>exact k
   |_=>obtain⟨_,_,_,_,K,_⟩:=k;exact K.elim
 |_=>cases hk
@[reducible] def tw(a b:PT os β):PT os β:=⟨.br a.a b.a,fun E=>a.q E∧b.q E,a.m,fun E=>a.n E∧b.n E∧(∀y,a.m=some y→b.m=some y),fun E c y hm d=>⟨a.ok E c.1 y hm d,b.ok E c.2.1 y (c.2.2 y hm) d⟩⟩
@[reducible] def du(k:PT os β):PT os β:=⟨.br k.a k.a,fun E=>k.q E∧k.q E,k.m,k.n,fun E b y hm a=>⟨k.ok E b y hm a,k.ok E b y hm a⟩⟩
theorem l9{C:Cx}{r:Ren}(g:Gd C r):∀{Ax:List (Ad×Blk)},DJ os Ax=true→Fs C Ax→Ib r Ax
 |[],_,_=>trivial
 |(k,b)::t,c,h=>by
  simp only[DJ,Yc]at c
  obtain⟨⟨⟨e,i⟩,j⟩,d⟩:=c
  unfold Ib
  unfold Fs at h
  rcases Gf e with a|⟨a,f⟩
  ·rw[a]at h⊢;exact l9 g d h
  ·rw[a]at h⊢;exact⟨⟨a,by rw[g.no,g.κ];exact h.1⟩,l9 g d h.2⟩
@[reducible] def ch{γ:Type}[Inhabited γ](P:Program)(f:FuncId)(xs:List AV)(ks:List Ad)(d:List (Ad×Blk))(M:Option γ)(e:γ→AV)(Ax:γ→List (Ad×Blk))(k:γ→PT os β)(b:∀z,DJ os (Ax z)=true:=by intro z;kernel_rfl):PT os β:=
 ⟨.hard (e (M.getD default)) ks (Ax (M.getD default)) [] (k (M.getD default)).a,fun E=>HO P E.l E.r f xs d (e (M.getD default)) (Ax (M.getD default)) []∧Ib E.r (Ax (M.getD default))∧(k (M.getD default)).q E,M.bind fun y=>(k y).m,
 fun E=>(∀y,M=some y→HO P E.C.l E.E.r f xs d (e y) (Ax y) [])∧(∀y,Fs E.C (Ax y))∧∀y,(k y).n E,fun E a y hm i=>by
  obtain⟨x,c,g⟩:=bind_some hm
  have h:M.getD default=x:=by rw[c];rfl
  rw[h]
  exact⟨by rw[E.hl];exact a.1 x c,l9 E.g (b x) (a.2.1 x),(k x).ok E (a.2.2 x) y g i⟩⟩
end
end Go.Eng
namespace Go.Eng
set_option linter.all false
open Go Go.RowKit Go.Shelf
theorem Ok.grown{l:Nat}{H:Hp}{m:Mu}{S:Nat→Prop}{w w':World}(h:Ok l H m S w)(os:Array Obj)(g:w'.heap=w.heap++os)(t:w'.os=w.os)(u:w'.tape=w.tape)(y:w'.output=w.output):Ok l H m S w'∧Ext l H m S w H m S w':=by
 have c:∀b,b<w.heap.size→w'.heap[b]?=w.heap[b]?:=fun b c=>by rw[g,NC c]
 have a:Ext l H m S w H m S w':=⟨fun _ h=>h,fun b hs=>c b (h.sub b hs),fun _ _=>Yf _,fun k e hg hl=>⟨hl,rfl,rfl⟩,t,u,y,by rw[g,QY];omega⟩
 refine⟨⟨fun b hs=>by have:=h.sub b hs;rw[g,QY];omega,h.empty,h.fresh,h.inj,fun k e hl z=>?_,h.mp.step (Yf _) (fun _ _ d _=>⟨d,rfl,rfl⟩) (fun _ h=>h) (fun _ h=>.inl h) a.blk (fun b o p _=>(c b (GF p)).trans p)⟩,a⟩
 obtain⟨C,j,r,s,n⟩:=h.blk k e hl z
 have f:(m k).b<w.heap.size:=(Y0.1 j).1
 exact⟨C,by rw[c _ f];exact j,r,s,fun i x v q d=>⟨(n i x v q d).1,(n i x v q d).2.ext a e⟩⟩
theorem gS(xs:List ByteArray):Af AW xs=xs.map fun x=>.d (.str x):=by
 induction xs with
 |nil=>rfl
 |cons x l a=>rw[Kf,a];rfl
def BR(x:ByteArray):List UInt8:=x.data.toList
def I4(xs:List ByteArray):List ByteArray:=xs.mergeSort fun x y=>decide (BR x≤BR y)
theorem Zvo(xs:List ByteArray):(I4 xs).length=xs.length:=List.length_mergeSort _
theorem Zut(xs:List ByteArray):(xs.map BR).mergeSort (fun x y=>decide (x≤y))=(I4 xs).map BR:=by
 unfold I4
 rw[List.map_mergeSort (s:=fun x y=>decide (x≤y)) (f:=BR) (fun _ _ _ _=>rfl)]
theorem ZxK(x:ByteArray):Go.Proofs.encStr (BR x)=.string x:=by
 unfold BR
 obtain⟨⟨l⟩⟩:=x
 rfl
theorem ZOT{off:Nat}{d:Array (List UInt8)}{C:Array Value}{i:Nat}(hi:i<d.size)(a:off+i<C.size):(Go.Sort.putCells Go.Proofs.encStr off d C)[off+i]?=some (Go.Proofs.encStr d[i]!):=by
 unfold Go.Sort.putCells
 rw[Array.getElem?_mapIdx,Yp a,YZ,Yg (by omega)]
 rw[show off+i-off=i from by omega]
theorem ZAs{off:Nat}{d:Array (List UInt8)}{C:Array Value}:(Go.Sort.putCells Go.Proofs.encStr off d C).size=C.size:=by
 unfold Go.Sort.putCells
 rw[Array.size_mapIdx]
theorem ZPK(w:World)(b:Nat)(f:Array Value→Array Value){C:Array Value}{e:TypeId}{fr:Nat×Nat}(h:w.heap[b]?=some (.cells C e fr))(i:Nat):(Go.Sort.mapBlock w b f).heap[i]?=if i=b then some (.cells (f C) e fr)else w.heap[i]?:=by
 unfold Go.Sort.mapBlock
 show(w.heap.modify b _)[i]?=_
 rw[XL]
 by_cases hi:b=i
 ·subst hi;rw[Yg rfl,Yg rfl,h];rfl
 ·rw[Yj hi,Yj fun e=>hi e.symm]
theorem Zr6{P:Program}{f:FuncId}(hb:∃fn c,P.funcs[f]?=some fn∧fn.body=some c∧(fn.name== "runtime.NumGoroutine")=false){ℓ:Nat}{ℋ:Hp}{k:Ad}(hk:k.1≤ℓ){g:Nat}{e:TypeId}(xs ys J:List ByteArray)
  (s:ℋ k=⟨g,true,e,1,Af AW xs⟩) (hy:ys.length=xs.length) (V:J <+: ys) (z:AV) (R:Option Addr→Nat→Value)
  (p0:xs=[]→∀a cap w,Calls P f #[.slice a 0 cap] w fun e' w'=>e'=.returned (R a cap)∧w'=w)
  (p1:∀blk off cap w,Go.Sort.Holds Go.Proofs.encStr w blk off (xs.map BR).toArray→blk<w.heap.size→xs.length≤cap→Calls P f #[.slice (some ⟨blk,off,none⟩) xs.length cap] w fun e' w'=>
   e'=.returned (R (some ⟨blk,off,none⟩) cap)∧∃n os,w'=Go.Sort.grow (Go.Sort.putRow Go.Proofs.encStr (Go.Sort.ahead w n) blk off (ys.map BR).toArray) os)
  (hz:∀(w':World) (S':Nat→Prop) (L:Hp) (E:Mu) (a:Option Addr),(L k).g=g→(L k).live=true→xs.length≤(E k).cap→(0<(E k).cap→a=some ⟨(E k).b,(E k).o,none⟩)→RepA w' S' L E ℓ z (R a (E k).cap))
  {r:AV→Hp→Prop} (h:r z (updH ℋ k ⟨g,true,e,1,Af AW J⟩)):ZcF P f ℓ [.ref k g 0 xs.length] ℋ r:=
 ⟨hb,fun m S w vs O hA=>by
  obtain⟨hs,W⟩:=hA
  obtain⟨vl⟩:=vs
  match vl,hs,W with
  |[v0],_,W=>
   have h0:=W 0 _ v0 rfl rfl
   have hl:(ℋ k).live=true:=by rw[s]
   have hg:(ℋ k).g=g:=by rw[s]
   cases h0 with
   |refD _ _ _ _ _ _ _ T _=>rw[T hg.symm]at hl;cases hl
   |refL _ _ _ a _ _ l K=>
    rw[XT,YJ]at*
    have K:0<(m k).cap→a=some ⟨(m k).b,(m k).o,none⟩:=fun q=>by rw[K q,He,EA]
    by_cases X:xs.length=0
    ·have:xs=[]:=oP.1 X
     subst this
     have:ys=[]:=oP.1 hy
     subst this
     have:J=[]:=List.prefix_nil.1 V
     subst this
     refine(p0 rfl a _ w).mono fun e' w' ⟨N,A⟩=>?_
     subst A
     have eq:updH ℋ k ⟨(ℋ k).g,true,e,1,Af AW []⟩=ℋ:=by
      funext q
      by_cases B:q=k
      ·subst B;rw[AO];exact s.symm
      ·rw[AJ _ _ B]
     rw[eq]at h
     exact⟨_,_,_,m,S,N,h,O,hz _ _ _ _ _ rfl hl l K,⟨fun _ h=>h,fun _ _=>rfl,fun _ _=>Yf _,fun q B hg hl=>⟨hl,rfl,rfl⟩,rfl,rfl,rfl,Yf _⟩⟩
    ·have G:(m k).cap≠0:=by omega
     obtain⟨C,F,M,Y,Z⟩:=O.blk k hk hl G
     rw[s]at F M Y Z
     have Q:=K (by omega)
     subst Q
     rw[Nat.mul_one]at M Y
     have cell:∀(i:Nat) (x:ByteArray),xs[i]?=some x→C[(m k).o+i]?=some (.string x):=fun i x u=>by
      have H:=(Yd.1 u).1
      have hC:(m k).o+i<C.size:=by omega
      obtain⟨v,D⟩:∃v,C[(m k).o+i]?=some v:=⟨_,Yp hC⟩
      have:=(Z i (.d (.str x)) v (by show(Af AW xs)[i]?=_;rw[gS,YL,u];rfl) D).2
      rw[D]
      cases this with
      |d _ _ T=>cases T with
       |str=>rfl
     have H:(m k).b<w.heap.size:=(Y0.1 F).1
     have o:Go.Sort.Holds Go.Proofs.encStr w (m k).b (m k).o (xs.map BR).toArray:=fun j hj=>by
      have U:j<xs.length:=by simpa using hj
      have e1:(xs.map BR).toArray[j]! =BR xs[j]:=by rw[getElem!_pos _ j hj];simp
      rw[e1,ZxK]
      refine⟨?_,?_⟩
      ·unfold World.cell?
       simp only[F]
       exact cell j xs[j] (Ya U)
      ·unfold World.frozen?
       simp only[F]
       simp
     refine(p1 (m k).b (m k).o (m k).cap w o H l).mono fun e' w' ⟨N,n,os,A⟩=>?_
     have I:=O.write k hk hl G (Af AW J) (Go.Sort.putCells Go.Proofs.encStr (m k).o (ys.map BR).toArray C) (by rw[ZAs,M,s,Nat.mul_one]) (by have:=V.length_le;rw[s,gS,YC,Nat.mul_one];omega)
      (Go.Sort.putRow Go.Proofs.encStr (Go.Sort.ahead w n) (m k).b (m k).o (ys.map BR).toArray) (fun b=>by rw[s];exact ZPK (Go.Sort.ahead w n) (m k).b _ F b) (by rw[Go.Sort.size_putRow];rfl) rfl rfl rfl (fun i x v u D=>by
       rw[gS,YL]at u
       cases p:J[i]? with
       |none=>rw[p]at u;cases u
       |some y=>
        rw[p]at u
        cases u
        have B:ys[i]?=some y:=by
         obtain⟨t,rfl⟩:=V
         rw[Yn (Yd.1 p).1];exact p
        have hi:=(Yd.1 B).1
        rw[ZOT (by simpa using hi) (by omega)]at D
        have e2:(ys.map BR).toArray[i]! =BR y:=by
         rw[getElem!_pos _ i (by simpa using hi)]
         simp[(Yd.1 B).2]
        rw[e2,ZxK]at D
        cases D
        exact⟨rfl,.d _ _ (.str _)⟩)
     rw[s]at I
     obtain⟨k1,k2⟩:=I
     obtain⟨k3,k4⟩:=k1.grown os (w':=w') (by rw[A];rfl) (by rw[A];rfl) (by rw[A];rfl) (by rw[A];rfl)
     exact⟨_,_,_,_,_,N,h,k3,hz _ _ _ _ _ (by rw[AO]) (by rw[AO]) l (fun _=>rfl),k2.trans k4⟩⟩
theorem Zqk{P:Program}{ρ:Go.Shelf.Ren}(L:Go.Proofs.Lays.n190 P ρ)(l:∃fn c,P.funcs[ρ.f 190]?=some fn∧fn.body=some c∧(fn.name== "runtime.NumGoroutine")=false){ℓ:Nat}{ℋ:Hp}{k:Ad}(m:k.1≤ℓ){g:Nat}{e:TypeId}(xs:List ByteArray)
  (j:ℋ k=⟨g,true,e,1,Af AW xs⟩) (n:xs.length<4611686018427387904) {b:AV→Hp→Prop} (h:b (.tup []) (updH ℋ k ⟨g,true,e,1,Af AW (I4 xs)⟩)):ZcF P (ρ.f 190) ℓ [.ref k g 0 xs.length] ℋ b:=
 Zr6 l m xs (I4 xs) (I4 xs) j (Zvo xs) (List.prefix_refl _) (.tup []) (fun _ _=>.tuple #[]) (fun _ a cap w=>Go.Proofs.Any.slices_Sort_string_none L a cap w)
  (fun blk off cap w d f _=>by
   have key:=Go.Proofs.Any.slices_Sort_string L blk off cap (xs.map BR) w d f (by rw[YC];exact n)
   rw[YC,Zut]at key
   exact key)
  (fun _ _ _ _ _ _ _ _ _=>.tup _ _ rfl (fun i x v o=>by simp at o)) h
end Go.Eng
namespace Go.Eng
set_option linter.all false
open Go Go.RowKit
section
variable {os:Nat} {β α:Type} [Rw α]
abbrev dH(xs:List α)(off cn:Nat)(z:List AV):List AV:=(Af Rw.e xs).take (off*Rw.s α)++(List.replicate cn z).flatten++(Af Rw.e xs).drop ((off+cn)*Rw.s α)
@[reducible] def cr(xs:List α)(off cn:Nat)(z:List AV)(k:PT os β):PT os β:=⟨.cs (dH xs off cn z) k.a,fun E=>cI (Af Rw.e xs) off cn (Rw.s α) z (dH xs off cn z)∧k.q E,
 if off+cn≤xs.length then k.m else none,k.n,fun E c y hm b=>by
  obtain⟨a,hm⟩:=B0 hm
  exact⟨Zyq Rw.len a,k.ok E c y hm b⟩⟩
@[reducible] def tro(q:Nat)(xs:List α)(off cn:Nat)(z:List AV)(k:PT os β)(d:Nat.ble (q+1) os=true:=by kernel_rfl):PT os β:=⟨.trim (0,q) (Af Rw.e (xs.take off)) k.a,fun E=>(∃m,(dH xs off cn z).take m=Af Rw.e (xs.take off))∧Lb E.r (0,q)∧k.q E,
 if off≤xs.length then k.m else none,k.n,fun E c y hm b=>by
  obtain⟨a,hm⟩:=B0 hm
  exact⟨ZyN Rw.len a,⟨rfl,by rw[E.g.no,E.g.κ];exact E.co.W q (Yh d)⟩,k.ok E c y hm b⟩⟩
end
theorem lfx{P:AV→List Blk→Prop}{v a:AV}{B:List Blk}(e:v=a)(h:P a B):P v B:=e▸h
theorem W0{A B:Prop}(b:A→B)(a:A):B:=b a
def gF(a fr:List Nat)(δ:Nat→Nat):Ad→Nat
 |(0,i)=>match fr.any (Nat.beq i)with|true=>δ i|false=>G5 a (0,i)
 |(_+1,_)=>0
def rF(l:Nat)(ks:List Ad)(a fr:List Nat)(δ:Nat→Nat)(H:Hp):Ren:=⟨Ed l ks,gF a fr δ,fun _=>.top,H,fun k=>k∈ks⟩
def Ii(κ:Ad→Ad):List (Nat×Nat)→Prop
 |[]=>True
 |(a,b)::t=>(κ (0,a)).1≤(κ (0,b)).1∧Ii κ t
structure KG (P:Program) (f:FuncId) (os:Nat) (fr:List Nat) (lv:List (Nat×Nat)) (ys:List AV) (bi:List Blk) {γ:Type} (M:Option γ) (e:γ→AV) (bs:γ→List Blk):Prop where
 k:∀l H (ks:List Ad) (gs:List Nat),ks.length=os→IS l ks→ks.Nodup→Jl H (Ck l ks gs (fun _=>.top) H) (D3 0 bi) 0 ks→Ii (Ed l ks) lv→∀y,M=some y→
  ZcF P f l (Aq (Ck l ks gs (fun _=>.top) H) ys) H (fun z H'=>∃δ,z=ren (rF l ks gs fr δ H) (e y)∧H'=DO H ks (CY (rF l ks gs fr δ H) 0 (bs y)))
theorem nz{P:Program}{T:Nat→Option TI}{n:Nat}{f:FuncId}{fn:Func}{ys:List AV}{bi:List Blk}{γ:Type}{M:Option γ}{e:γ→AV}{bs:γ→List Blk}(Q:P.funcs[f]?=some fn)(V:fn.ntmps=n)(N:Bg P T)(w:List ResultVar)(os:Nat)(fr fx:List Nat)(lv:List (Nat×Nat))
  (h:∀C:Cx,COx C os fx→Ii C.κ lv→∀y,M=some y→∀a:AV→List Blk→Prop,HL (fun y=>a (e y) (bs y)) y→LW P n C (pa [] (Aw fn)) (Ab (D8 0 ys) (D3 0 bi)) (FQ T w os a))
  (o:(Iz os).all (fun i=>fr.any (Nat.beq i)||fx.any (Nat.beq i))=true:=by kernel_rfl)
  (he:∀y,KV os (e y)=true:=by intro y;kernel_rfl) (hB:∀y,Gq os (bs y):=by intro y;repeat(first|exact trivial|refine⟨.inl (A2 _ _),rfl,?_⟩|refine⟨.inl MS,rfl,?_⟩|refine⟨.inr (by kernel_rfl),rfl,?_⟩)) (hl:∀y,(bs y).length=os:=by intro y;rfl) (d:Iu os (D3 0 bi)=true:=by kernel_rfl)
  (O:fn.body=some (Aw fn):=by kernel_rfl) (c:(fn.name== "runtime.NumGoroutine")=false:=by kernel_rfl) (W:fn.results.toList=w:=by kernel_rfl) (X:Nat.ble ys.length n=true:=by kernel_rfl):KG P f os fr lv ys bi M e bs:=
 ⟨fun l H ks m p g t J s y hy=>by
  subst p
  refine Zh2 w (Aw fn) ks m fx (fun _=>.top) ys (D3 0 bi) (fun z b=>z=e y∧b=bs y) Q O c V W (by rw[CN];exact Yh X) N (Ub g) t (gy d) (is d) (fun i k S=>by have:=lR J i k S;rw[YJ]at this;exact this) rfl (fun C G L I U K hθ A u=>?_) fun z b ⟨B,D⟩=>?_
  ·refine h C ⟨G,L,I,fun q x=>?_⟩ (by rw[A];exact s) y hy _ ⟨rfl,rfl⟩
   rw[u,A]
   show(match Bw ks q with|some k=>k|none=>(0,0))∈ks
   rw[Ct,Ya (by omega)]
   exact Io _
  ·subst B;subst D
   refine⟨hl y,(hB y).live,fun r E Y Z h4 F=>⟨fun i=>r.γ (0,i),?_⟩⟩
   have hs:M5 ks.length r (rF l ks m fr (fun i=>r.γ (0,i)) H):=fun q x=>by
    refine⟨by rw[E];rfl,?_⟩
    show r.γ (0,q)=match fr.any (Nat.beq q)with|true=>r.γ (0,q)|false=>G5 m (0,q)
    cases v:fr.any (Nat.beq q)with
    |true=>rfl
    |false=>
     have:=Yq.1 o q (T2 x)
     rw[v,Jn]at this
     obtain⟨j,R,e⟩:=YQ.1 this
     have:=Yb e
     subst this
     exact F q R
   exact⟨iy hs _ (he y),by rw[Gq.ren hs _ _ (by rw[hl];omega) (hB y)]⟩⟩
def gB(r:Ren)(fr:List Nat)(δ:Nat→Nat):Nat→List (Ad×Blk)→Ad→Nat
 |_,[],k=>r.γ k
 |i,(q,_)::t,k=>match fr.any (Nat.beq i),BL k q with|true,true=>δ i|_,_=>gB r fr δ (i+1) t k
def G4(fr:List Nat):Nat→List (Ad×Blk)→List Ad
 |_,[]=>[]
 |i,(q,_)::t=>match fr.any (Nat.beq i)with|true=>q::G4 fr (i+1) t|false=>G4 fr (i+1) t
theorem lJ{r:Ren}{fr:List Nat}{δ:Nat→Nat}{k:Ad}:∀(a:List (Ad×Blk)) (i:Nat),k∉G4 fr i a→gB r fr δ i a k=r.γ k
 |[],i,_=>rfl
 |(q,b)::t,i,h=>by
  simp only[G4]at h
  simp only[gB]
  cases c:fr.any (Nat.beq i)with
  |false=>rw[c]at h;exact lJ t (i+1) h
  |true=>
   rw[c]at h
   simp only[YG,not_or]at h
   have:BL k q=false:=by
    cases d:BL k q with
    |false=>rfl
    |true=>exact absurd (Cz.1 d) h.1
   rw[this]
   exact lJ t (i+1) h.2
def rB(r:Ren)(fr:List Nat)(δ:Nat→Nat)(a:List (Ad×Blk)):Ren:=⟨r.κ,gB r fr δ 0 a,r.θ,r.H0,r.no⟩
section
variable {P:Program} {f:FuncId} {os os':Nat} {fr fx:List Nat} {lv:List (Nat×Nat)} {ys:List AV} {bi:List Blk} {γ:Type} {M:Option γ} {e:γ→AV} {bs:γ→List Blk} {C:Cx} {r:Ren} {xs:List AV} {x:AV} {y:γ}
theorem Zzv(K:KG P f os fr lv ys bi M e bs)(hy:M=some y)(co:COx C os' fx)(g:Gd C r)(a u c:List (Ad×Blk))(o:Ii (Ed (C.l+1) ((a.map (·.1)).map r.κ)) lv)
  (n:∀H,BE (rC C r a (fun _=>.top) H) r 0 bi a) (i:∀H δ,BE (rF (C.l+1) ((a.map (·.1)).map r.κ) (Fm r a) fr δ H) (rB r fr δ a) 0 (bs y) c) (l:(bs y).all Blk.live=true:=by kernel_rfl) (D:∀H,Aq (rC C r a (fun _=>.top) H) ys=Aq r xs:=by intro H;kernel_rfl)
  (t:∀H δ,ren (rF (C.l+1) ((a.map (·.1)).map r.κ) (Fm r a) fr δ H) (e y)=ren (rB r fr δ a) x:=by intro H δ;kernel_rfl)
  (d:((a.map (·.1)).all (BS os')&&HG (a.map (·.1))&&Nat.beq a.length os)=true:=by kernel_rfl) (he:a.map (·.1)=c.map (·.1):=by rfl):HO P C.l r f xs (a++u) x c (G4 fr 0 a):=by
 have q:∀b∈bs y,b.live=true:=fun b B=>Yq.1 l b B
 have m:∀p∈a,p∈a++u:=fun p s=>Jp _ s
 intro h hg E
 simp only[Yc]at d
 have:=K.k (C.l+1) h ((a.map (fun p:Ad×Blk=>p.1)).map r.κ) (Fm r a) (by rw[YC,YC];exact Yb d.2) (MC co g _ d.1.1) (OK (Vz co g) _ d.1.2 d.1.1)
  (Pa bi a 0 bi (fun j=>by have:=O1 bi 0 j;rwa [YJ]at this⊢) (n h) fun p s=>hg p (m p s)) o y hy
 rw[←D h]
 refine this.mono fun z v ⟨δ,w,A⟩=>⟨gB r fr δ 0 a,fun k d=>lJ a 0 d,w.trans (t h δ),A.trans ?_⟩
 exact gH (r:=rB r fr δ a) (bs y) a c 0 h (i h δ) q he
end
section
variable {P:Program} {T:Nat→Option TI} {n:Nat} {C:Cx} {τ:St} {Q:Exit→St→Prop} {os k:Nat} {c:Code} {β:Type} {L:β→Prop} {y:β} {fx:List Nat}
theorem ZQT{r:Ren}(co:COx C os fx)(g:Gd C r)(a b:Nat):(r.κ (1,a)).1≤(r.κ (1,b)).1:=by rw[g.κ,co.ok.own,co.ok.own];exact Yf _
theorem qF{r:Ren}{a b:Nat}(g:Gd C r)(h:(C.κ (0,a)).1≤(C.κ (0,b)).1):(r.κ (0,a)).1≤(r.κ (0,b)).1:=by rw[g.κ];exact h
theorem ZVM{r:Ren}{a b:Nat}(g:Gd C r)(h:Ii C.κ [(a,b)]):(r.κ (0,a)).1≤(r.κ (0,b)).1∧True:=⟨qF g h.1,trivial⟩
theorem ZSA{r:Ren}{a b:Nat}{t:List (Nat×Nat)}(g:Gd C r)(h:Ii C.κ ((a,b)::t)){c off m:Nat}:FO r (0,b) [.ref (0,a) c off m]:=by
 unfold FO
 simp only[Aq,ren,Ik,List.all_nil,NQ,AV.low]
 have:=qF g h.1
 simpa using this
@[reducible] def vwl(q:Nat)(vs:List AV)(k:PT os β)(c:Nat.ble (q+1) os=true:=by kernel_rfl):PT os β:=
 ⟨k.a,fun E=>Lb E.r (0,q)∧FO E.r (0,q) vs∧k.q E,k.m,fun E=>FO E.E.r (0,q) vs∧k.n E,fun E a y hm b=>⟨⟨rfl,by rw[E.g.no,E.g.κ];exact E.co.W q (Yh c)⟩,a.1,k.ok E a.2 y hm b⟩⟩
theorem Bv{γ:Type}{M:Option γ}{kk:γ→Option β}{ss:List (Nat×AV)}{hs:List (Ad×Blk)}{f:FuncId}{os':Nat}{fr:List Nat}{lv:List (Nat×Nat)}{ys:List AV}{bi:List Blk}{e0:γ→AV}{bs:γ→List Blk}(co:COx C os fx)(hm:M.bind kk=some y)(K:KG P f os' fr lv ys bi M e0 bs)
  (a b:List (Ad×Blk)) (e:γ→AV) (Ax:γ→List (Ad×Blk)) (fl:List Ad)
  (h:∀z,kk z=some y→LO P n C c (k+1) (Ab (GR (FK c k) (e z) (Ei (G4 fr 0 a) ss)) (Ax z++Da ((Ax z).map (·.1)) (G4 fr 0 a) fl hs)) Q)
  (m:∀r,Gd C r→Ii (Ed (C.l+1) ((a.map (·.1)).map r.κ)) lv:=by
   intro r g
   first
   |exact⟨ZQT ‹_› g _ _,trivial⟩
   |exact ZVM g (by assumption)
   |exact trivial)
  (xs:List AV:=[]++(GM c k).map (ev (AN ss))++[])
  (s:∀z,Fs C (Ax z):=by intro z;repeat(first|exact trivial|refine⟨COx.W ‹_› _ (by decide),?_⟩))
  (j:Jc (AI hs) fl:=by repeat(first|exact trivial|refine⟨A2 _ _,?_⟩))
  (i:∀r H,BE (rC C r a (fun _=>.top) H) r 0 bi a:=by
   intro r H
   repeat(first|exact trivial|refine⟨fun _=>⟨rfl,BA (A2 _ _) (by kernel_rfl)⟩,by kernel_rfl,?_⟩|refine⟨fun _=>⟨rfl,BA MS (by kernel_rfl)⟩,by kernel_rfl,?_⟩|refine⟨fun _=>⟨rfl,by kernel_rfl⟩,by kernel_rfl,?_⟩))
  (d:∀z r H δ,BE (rF (C.l+1) ((a.map (·.1)).map r.κ) (Fm r a) fr δ H) (rB r fr δ a) 0 (bs z) (Ax z):=by
   intro z r H δ
   repeat(first|exact trivial|refine⟨fun _=>⟨rfl,BA (A2 _ _) (by kernel_rfl)⟩,by kernel_rfl,?_⟩|refine⟨fun _=>⟨rfl,BA MS (by kernel_rfl)⟩,by kernel_rfl,?_⟩|refine⟨fun _=>⟨rfl,by kernel_rfl⟩,by kernel_rfl,?_⟩))
  (G:∀r H,Aq (rC C r a (fun _=>.top) H) ys=Aq r xs:=by intro r H;kernel_rfl) (t:[]++(GM c k).map (ev (AN ss))++[]=xs:=by kernel_rfl) (u:∀z r H δ,ren (rF (C.l+1) ((a.map (·.1)).map r.κ) (Fm r a) fr δ H) (e0 z)=ren (rB r fr δ a) (e z):=by intro z r H δ;kernel_rfl)
  (q:GJ c k=some (FK c k,callF c k,GM c k):=by kernel_rfl) (E:ev (AN ss) (callF c k)=.fn (.func f) [] []:=by kernel_rfl)
  (l:(((a++b).map (·.1)).map fun k=>(k,AI hs k))=a++b:=by kernel_rfl) (o:∀z,(bs z).all Blk.live=true:=by intro z;kernel_rfl) (he:∀z,a.map (·.1)=(Ax z).map (·.1):=by intro z;rfl)
  (F:((a.map (·.1)).all (BS os)&&HG (a.map (·.1))&&Nat.beq a.length os')=true:=by kernel_rfl)
  (p:∀z,(DJ os (Ax z)&&Lz (G4 fr 0 a) (Ax z)&&My (G4 fr 0 a) fx&&HI hs&&Nb n (FK c k)&&((a++b).map (·.1)).all (BS os))=true:=by intro z;kernel_rfl):LO P n C c k (Ab ss hs) Q:=by
 obtain⟨z,B,D⟩:=bind_some hm
 exact Zn2 co.ok co.O co.F f [] [] xs q E t _ (a++b) l (e z) (Ax z) (G4 fr 0 a) fl (p z) (s z) j (fun r v w x A=>Zzv K B co ⟨v,w,x,A⟩ a b (Ax z) (m r ⟨v,w,x,A⟩) (fun H=>i r H) (fun H δ=>d z r H δ) (o z) (fun H=>G r H) (fun H δ=>u z r H δ) F (he z)) (h z D)
def ZYM(m:Nat):Code→Bool
 |.region _ ops true=>Nat.beq ops.toList.length (m+1)&&WN ops.toList&&(I6 m ops.toList).all (fun o=>C9 o||B9 o)&&KY ops.toList 0 ops.toList&&(Iz m).all (fun i=>Pj ops.toList i ops.toList.length m)
 |_=>false
theorem Fk(co:COx C os fx)(hT:Bg P T)(A:P.follows .mixedOrders=true)(m:Nat)(v:PT os β)(lf:Lf)(hv:v.m=some y)(Z:HL L y)(hn:∀r (g:Gd C r),v.n ⟨⟨C.l,r,fun _ τ'=>LO P n C c m τ' Q,fun _ _=>False⟩,L,C,_,co,g,rfl⟩)
  (hq:∀l r Q h,Bu r os v.a τ (fun τ a=>GO P T l n r ((Cu c).toList.map (·.dst)) (I6 m (Cu c).toList) [] a (fun τ' env f=>Bu r os f (El env τ') (fun τ _=>FL fx lf τ (Q .normal))) τ)=v.q ⟨l,r,Q,h⟩:=by intro l r Q P;kernel_rfl)
  (t:ZYM m c=true:=by kernel_rfl):LW P n C c τ Q:=by
 cases c with
 |region id ops N=>
  cases N with
  |false=>cases t
  |true=>
   obtain⟨Lf,rfl⟩:∃l:List Oper,ops=l.toArray:=⟨ops.toList,by simp⟩
   simp only[ZYM,Yc,T7]at t
   obtain⟨⟨⟨⟨G,H⟩,E⟩,I⟩,J⟩:=t
   have G:=Yb G
   have s:∃o,Lf.drop m=[o]:=List.length_eq_one_iff.1 (by rw[YP];omega)
   obtain⟨o,s⟩:=s
   have b:Lf=Lf.take m++[o]:=by rw[←s,Hi]
   have z:(Lf.take m).length=m:=by rw[Yy];omega
   intro γ σ hg Y a w hR
   have q:=v.ok _ (hn (C.r γ) ⟨rfl,rfl,rfl,rfl⟩) y hv Z
   rw[←hq]at q
   generalize v.a=va at q
   have ok:=co.ok
   rw[←co.O,←co.F]at q
   obtain⟨τ₁,M,K,F,u,D⟩:=Cn (n:=n) ok va q Y
   simp only[Cu,T7,List.toList_toArray]at F H E I J
   have k:=ZuG (P:=P) (n:=n) (B:=C.B) (id:=id) (L:=Lf.take m) (o:=o) (σ:=K) (a:=a) (w:=w) (QQ:=fun e f w'=>∃p,Is n C (Q e) p∧R C.l n C.B p f w')
    (X:=fun p=>∃τ' d f,Bu (C.r γ) C.outs f (El d τ') (fun τ _=>FL C.fx lf τ (fun τ'=>LO P n C (.region id Lf.toArray true) m τ' Q))∧RG (C.r γ) C.l C.outs d τ' p) A (ZjA (by rw[←b];exact H)) E (by rw[←b];exact I)
    (fun i hi=>by rw[←b,z];exact fQ _ _ (Yq.1 J i (T2 (by omega)))) (by rw[←b];exact Mj (ok.ren γ) hT _ [] M τ₁ K E F u) (fun p j w' x ⟨τ',d,f,f1,f2⟩=>?_) (D _ _ hR)
   ·rw[←b]at k;exact k
   ·obtain⟨σ₂,V,W⟩:=OI (n:=n) f2
    obtain⟨τ₃,a₃,σ₃,O,S,U⟩:=Cn (n:=n) ok f f1 V
    obtain⟨γ',τ₄,σ₄,j0,j1,j2,j3⟩:=Hx (n:=n) ok O hg S
    have:=j1 γ' σ₄ j w' j0 j2 (j3 _ _ (U _ _ (W _ _ x)))
    simp only[Cu,List.toList_toArray,s]at this
    rw[←b]
    exact this
 |_=>cases t
end
section
variable {P:Program} {l l':Nat} {H:Hp} {m:Mu} {S:Nat→Prop} {w:World}
inductive Vw (H:Hp) (l:Nat):AV→D→Prop
 |d (x:D):Vw H l (.d x) x
 |e0:Vw H l .e0 (.list [])
 |ref (k:Ad) (g n:Nat) (es:List (List D)) (hk:k.1≤l) (hg:(H k).g=g) (hn:es.length=n) (hl:(H k).live=true) (hz:∀e∈es,e.length=(H k).sz) (hp:(H k).sz≠0) (hc:(H k).cells.length=n*(H k).sz)
   (hr:∀(i:Nat) (x:AV) (d:D),(H k).cells[i]?=some x→es.flatten[i]?=some d→Vw H l x d):Vw H l (.ref k g 0 n) (.list es)
 |mp (k:Ad) (g:Nat) (a:Bool) (es:List (List D)) (hk:k.1≤l) (hg:(H k).g=g) (hl:(H k).live=true) (he:(H k).e=.m a es):Vw H l (.mp k g) (.map a es)
inductive Vx (H:Hp) (l:Nat):AV→AV→Prop
 |d (x:AV) (d:D) (h:Vw H l x d):Vx H l x (.d d)
 |ptr (k:Ad) (g:Nat) (ds:List D) (hk:k.1≤l) (hg:(H k).g=g) (hl:(H k).live=true) (hne:ds≠[]) (hc:(H k).cells.length=ds.length) (hr:∀(i:Nat) (x:AV) (d:D),(H k).cells[i]?=some x→ds[i]?=some d→Vw H l x d):Vx H l (.ptr k g 0) (.iptr ds 0)
 |fn (f:Fn) (xs ys:List AV) (hn:xs.length=ys.length) (h:∀(i:Nat) (x y:AV),xs[i]?=some x→ys[i]?=some y→Vx H l x y):Vx H l (.fn f [] xs) (.fn f [] ys)
def Ny(H:Hp)(l:Nat):List AV→List AV→Prop
 |[],[]=>True
 |x::xs,y::ys=>Vx H l x y∧Ny H l xs ys
 |_,_=>False
theorem Ny.at{H:Hp}{l:Nat}:∀{xs ys:List AV},Ny H l xs ys→xs.length=ys.length∧∀(i:Nat) (x y:AV),xs[i]?=some x→ys[i]?=some y→Vx H l x y
 |[],[],_=>⟨rfl,fun i x y h=>by simp at h⟩
 |x::xs,y::ys,⟨f,e⟩=>⟨by simp[(Ny.at e).1],fun i a b c d=>by
  cases i with
  |zero=>simp at c d;subst c;subst d;exact f
  |succ i=>simp at c d;exact(Ny.at e).2 i a b c d⟩
 |[],_::_,h=>h.elim
 |_::_,[],h=>h.elim
def D.sc:D→Bool
 |.list _=>false
 |.map _ _=>false
 |_=>true
end
def N9{γ:Type}[DecidableEq γ](M:Option (List γ)):Option γ:=M.bind fun ys=>match ys with
 |[]=>none
 |y::r=>if∀z∈r,z=y then some y else none
theorem KCN.uniq{P:Program}{f:FuncId}{xs:List AV}{γ:Type}[DecidableEq γ]{M:Option (List γ)}{e:γ→AV}(K:KCN P f xs M e):KC P f xs (N9 M) e:=K.one _ fun y h=>by
 unfold N9 at h
 cases M with
 |none=>cases h
 |some ys=>
  refine⟨ys,rfl,?_⟩
  rw[Ye]at h
  split at h
  ·cases h
  ·obtain⟨b,c⟩:=B0 h
   cases c
   intro z a
   rcases YG.1 a with rfl|a
   ·rfl
   ·exact b z a
theorem ZHt{γ:Type}[DecidableEq γ]{M:Option (List γ)}{ys:List γ}{y:γ}(h:M=some ys)(b:ys≠[])(hy:∀z∈ys,z=y):N9 M=some y:=by
 subst h
 cases ys with
 |nil=>exact absurd rfl b
 |cons a r=>
  have e:=hy a (YB ..)
  subst e
  show(if∀z∈r,z=a then some a else none)=_
  rw[Yg fun z c=>hy z (Ys _ c)]
end Go.Eng
