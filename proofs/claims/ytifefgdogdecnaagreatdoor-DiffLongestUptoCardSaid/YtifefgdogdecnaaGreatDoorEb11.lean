import Derived.Test.YtifefgdogdecnaaGreatDoorEb10
import Derived.OrdersHeld
import Derived.Test.YtifefgdogdecnaaGreatDoorEb09
import Derived.Test.YtifefgdogdecnaaGreatDoorEb00
namespace Go.Eng
set_option linter.all false
open Go Go.RowKit
inductive Pl where
 |nil
 |fst (i:Nat) (r:Pl)
 |two (i j:Nat) (a b:Pl)
 |opt (hs:List Nat) (i:Nat) (r s:Pl)
def Pl.len:Pl→Nat
 |.nil=>0
 |.fst _ r=>r.len+1
 |.two _ _ a _=>a.len+1
 |.opt _ _ r _=>r.len+1
def LP:Pl→Bool
 |.opt _ _ _ _=>true
 |_=>false
def Mx:Pl→List Nat
 |.opt _ i _ s=>i::Mx s
 |_=>[]
def H6:Pl→Bool
 |.opt hs i r s=>hs.all fun k=>(Mx (.opt hs i r s)).any (Nat.beq k)
 |_=>true
def Bn(P:Program)(ops:Array Oper)(Q:Exit→Act→World→Prop)(o:Oper)(a:Act)(w:World)(N:Act→World→Prop):Prop:=if Region.wanted o (yielded ops a.tmps)=true then o.wp P a w N Q else N (a.put o.dst Go.undef) w
def Cq(P:Program)(L:List Oper)(Q:Exit→Act→World→Prop)(S:World→Prop):Pl→Act→World→Prop
 |.nil,a,w=>Q .normal a w
 |.fst i r,a,w=>match AS L i with
  |some o=>Bn P L.toArray Q o a w (fun b w'=>S w'∧Cq P L Q S r b w')
  |none=>False
 |.two i j x y,a,w=>match AS L i,AS L j with
  |some o,some c=>Bn P L.toArray Q o a w (fun b w'=>S w'∧Cq P L Q S x b w')∧Bn P L.toArray Q c a w (fun b w'=>S w'∧Cq P L Q S y b w')
  |_,_=>False
 |.opt _ i x y,a,w=>match AS L i with
  |some o=>Bn P L.toArray Q o a w (fun b w'=>S w'∧Cq P L Q S x b w')∧(LP y=true→Cq P L Q S y a w)
  |none=>False
def Jp(listed hs:List Nat):Nat→List Oper→Bool
 |_,[]=>true
 |k,ok::r=>(listed.any (Nat.beq k)||hs.any (Nat.beq k)||ok.after.toList.any (fun e=>Region.binds .any e&&!listed.any (Nat.beq e.on)))&&Jp listed hs (k+1) r
theorem OL{listed hs:List Nat}:∀{r:List Oper} {b k:Nat} {ok:Oper},Jp listed hs b r=true→r[k]?=some ok→
  (b+k)∈listed∨b+k∈hs∨∃e∈ok.after,Region.binds .any e=true∧e.on∉listed
 |[],b,k,ok,_,h=>by simp at h
 |q::r,b,k,ok,d,h=>by
  unfold Jp at d
  rw[Yc]at d
  cases k with
  |zero=>
   simp only[YW,Yh]at h
   subst h
   have a:=d.1
   simp only[YD]at a
   rcases a with(a|a)|a
   ·exact .inl (DD.1 a)
   ·exact .inr (.inl (DD.1 a))
   ·obtain⟨e,he,c⟩:=YX.1 a
    rw[Yc]at c
    exact .inr (.inr ⟨e,by simpa using he,c.1,fun hm=>by have:=DD.2 hm;rw[this]at c;cases c.2⟩)
  |succ k=>
   have:=OL (k:=k) d.2 (by simpa using h)
   grind
def Mg(listed:List Nat)(i j:Nat):Nat→List Oper→Bool
 |_,[]=>true
 |k,ok::r=>(listed.any (Nat.beq k)||Nat.beq k i||Nat.beq k j||ok.after.toList.any (fun e=>Region.binds .any e&&!listed.any (Nat.beq e.on)))&&Mg listed i j (k+1) r
theorem TJ{listed:List Nat}{i j:Nat}:∀{r:List Oper} {b k:Nat} {ok:Oper},Mg listed i j b r=true→r[k]?=some ok→
  (b+k)∈listed∨b+k=i∨b+k=j∨∃e∈ok.after,Region.binds .any e=true∧e.on∉listed
 |[],b,k,ok,_,h=>by simp at h
 |q::r,b,k,ok,d,h=>by
  unfold Mg at d
  rw[Yc]at d
  cases k with
  |zero=>
   simp only[YW,Yh]at h
   subst h
   have a:=d.1
   simp only[YD]at a
   rcases a with((a|a)|a)|a
   ·exact .inl (DD.1 a)
   ·exact .inr (.inl (Ya a))
   ·exact .inr (.inr (.inl (Ya a)))
   ·obtain⟨e,he,c⟩:=YX.1 a
    rw[Yc]at c
    exact .inr (.inr (.inr ⟨e,by simpa using he,c.1,fun hm=>by have:=DD.2 hm;rw[this]at c;cases c.2⟩))
  |succ k=>
   have:=TJ (k:=k) d.2 (by simpa using h)
   grind
def Jd(env:List (Nat×Nat))(o:Oper):Bool:=match o.op with
 |.load _ x=>(match GG x with|some y=>(FD y env).isSome|none=>false)
 |_=>false
def C8(o:Oper):Bool:=match o.guard with
 |none=>true
 |some _=>false
def Ib(P:Program)(o:Oper):Bool:=C8 o||(FF P o).isNone
def DK(P:Program)(L:List Oper):List (Nat×Nat)→List Nat→Pl→Bool
 |_,listed,.nil=>(List.range L.length).all fun j=>listed.any (Nat.beq j)
 |env,listed,.fst i b=>(match AS L i with
  |some a=>!(listed.any (Nat.beq i))&&a.after.toList.all (fun e=>!Region.binds .any e||listed.any (Nat.beq e.on))&&(match C8 a&&(BY P a||Jd env a)with|true=>Js.chkV P L listed i a 0 L|false=>(match L.all C8 with|true=>JA P L listed i a 0 L|false=>Jp listed [i] 0 L))&&Ib P a&&DK P L (BP P env a) (i::listed) b&&H6 b
  |none=>false)
 |env,listed,.two i j x y=>(match AS L i,AS L j with
  |some a,some c=>a.after.toList.all (fun e=>!Region.binds .any e||listed.any (Nat.beq e.on))&&!(listed.any (Nat.beq i))&&!(listed.any (Nat.beq j))&&Mg listed i j 0 L&&(Ib P a&&Ib P c)&&Nat.beq x.len y.len&&DK P L (BP P env a) (i::listed) x&&DK P L (BP P env c) (j::listed) y&&H6 x&&H6 y
  |_,_=>false)
 |env,listed,.opt hs i x y=>(match AS L i with
  |some a=>a.after.toList.all (fun e=>!Region.binds .any e||listed.any (Nat.beq e.on))&&!(listed.any (Nat.beq i))&&Jp listed hs 0 L&&Ib P a&&DK P L (BP P env a) (i::listed) x&&H6 x&&(!LP y||(Nat.beq y.len (x.len+1)&&DK P L env listed y))
  |none=>false)
def GQ(o:Oper)(a b:Act):Prop:=∃u,∀x,b.eval x=(a.put o.dst u).eval x
theorem Uw{P:Program}{o:Oper}{a:Act}{w:World}{N:Act→World→Prop}{Q:Exit→Act→World→Prop}(h:o.wp P a w N Q):o.wp P a w (fun g w'=>N g w'∧GQ o a g∧∀v b,(execOp a.eval o).run P w=.ok (.value v) b→g=a.put o.dst v) Q:=by
 unfold Oper.wp at*
 cases j:(execOp a.eval o).run P w with
 |ok n w'=>
  rw[j]at h
  cases n<;>simp only[Oper.upon]at h⊢
  case value u=>exact⟨h,⟨u,fun _=>rfl⟩,fun v b e=>by cases e;rfl⟩
  case skip=>exact⟨h,⟨_,fun _=>rfl⟩,fun v b e=>by cases e⟩
  case defer d=>exact⟨h,⟨Go.undef,fun x=>by cases o.dst<;>rfl⟩,fun v b e=>by cases e⟩
  case enter f args=>
   refine Calls.mono h fun e i he=>?_
   cases e with
   |returned u=>exact⟨he,⟨u,fun _=>rfl⟩,fun v b e=>by cases e⟩
   |panicked c=>exact he
   |outgrown=>exact he
  case row row args=>exact Rows.mono h fun u i he=>⟨he,⟨u,fun _=>rfl⟩,fun v b e=>by cases e⟩
 |halt x w'=>
  rw[j]at h
  cases x<;>simp only[Oper.upon]at h⊢
  grind
theorem Bn.mono{P:Program}{ops:Array Oper}{Q:Exit→Act→World→Prop}{o:Oper}{a:Act}{w:World}{N b:Act→World→Prop}(h:∀d w',N d w'→b d w')(s:Bn P ops Q o a w N):Bn P ops Q o a w b:=by
 unfold Bn at*
 split
 ·rename_i c
  rw[Yj c]at s
  exact Oper.wp_mono h s
 ·rename_i c
  rw[Yq c]at s
  exact h _ _ s
theorem Bn.un{P:Program}{ops:Array Oper}{Q:Exit→Act→World→Prop}{o:Oper}{a:Act}{w:World}{N:Act→World→Prop}(g:o.guard=none)(s:Bn P ops Q o a w N):o.wp P a w N Q:=by
 unfold Bn at s
 rw[Yj (by simp[Region.wanted,g])]at s
 exact s
theorem Bn.put{P:Program}{ops:Array Oper}{Q:Exit→Act→World→Prop}{o:Oper}{a:Act}{w:World}{N:Act→World→Prop}(s:Bn P ops Q o a w N):Bn P ops Q o a w (fun b w'=>N b w'∧GQ o a b∧(o.guard=none→∀v d,(execOp a.eval o).run P w=.ok (.value v) d→b=a.put o.dst v)):=by
 unfold Bn at*
 split
 ·rename_i c
  rw[Yj c]at s
  exact Oper.wp_mono (fun b w' h=>⟨h.1,h.2.1,fun _=>h.2.2⟩) (Uw s)
 ·rename_i c
  rw[Yq c]at s
  exact⟨s,⟨_,fun _=>rfl⟩,fun g=>absurd (by simp[Region.wanted,g]) c⟩
theorem Bn.op{P:Program}{ops:Array Oper}{Q:Exit→Act→World→Prop}{o:Oper}{a:Act}{w:World}{N:Act→World→Prop}{k:Nat}(b:ops[k]?=some o)(s:Bn P ops Q o a w N):wpOp P ops Q k N a w:=by
 unfold wpOp
 simp only[b]
 unfold Bn at s
 split
 ·rename_i c
  rw[Yj c]at s
  exact .inl s
 ·rename_i c
  rw[Yq c]at s
  exact s
theorem KD{o:Oper}(h:C8 o=true):o.guard=none:=by
 unfold C8 at h
 cases a:o.guard with
 |none=>rfl
 |some _=>rw[a]at h;cases h
def JF(β:Nat→Nat)(env:List (Nat×Nat))(a:Act):Prop:=∀p∈env,∀b,pb (a.eval (.tmp p.1))=some b→b=β p.2
theorem eval_put(a:Act)(d j:Nat)(u:Value)(h:j≠d):(a.put (some d) u).eval (.tmp j)=a.eval (.tmp j):=by
 simp only[Act.put,Act.eval,Yp,Ix]
 grind
theorem aU(a:Act)(d:Nat)(u:Value):(a.put (some d) u).eval (.tmp d)=u∨(a.put (some d) u).eval (.tmp d)=Go.undef:=by
 simp only[Act.put,Act.eval,Yp,Ix]
 grind
theorem JF.put{P:Program}{β:Nat→Nat}{env:List (Nat×Nat)}{a i:Act}{o:Oper}{w:World}(j:JF β env a)(h:GQ o a i)(y:∀z,FF P o=some z→∃v q,(execOp a.eval o).run P w=.ok (.value v) q∧i=a.put o.dst v):JF β (BP P env o) i:=by
 intro p c b f
 unfold BP at c
 cases g:o.dst with
 |none=>
  rw[g]at c
  obtain⟨u,m⟩:=h
  rw[m,g]at f
  exact j p c b f
 |some d=>
  rw[g]at c
  rcases J2.1 c with c|c
  ·cases hs:FF P o with
   |none=>rw[hs]at c;cases c
   |some z=>
    rw[hs]at c
    dsimp only at c
    cases he:FD z env with
    |none=>rw[he]at c;cases c
    |some r=>
     rw[he]at c
     rcases Iq.1 c with rfl
     obtain⟨v,q,s,t⟩:=y z hs
     rw[t,g]at f
     have k:pb v=some b:=by
      rcases aU a d v with e|e
      ·grind
      ·rw[e]at f;cases f
     exact j _ (Gt he) b (US hs s k)
  ·obtain⟨x,n⟩:=J1.1 c
   obtain⟨u,m⟩:=h
   have l:p.1≠d:=fun e=>by rw[e]at n;simp at n
   rw[m,g,eval_put a d p.1 u l]at f
   exact j p x b f
section
variable {P:Program} {Q:Exit→Act→World→Prop} {L:List Oper} {S:World→Prop}
theorem bK{ops:Array Oper}{i:Nat}{l:Oper}{v:Value}(hi:ops[i]?=some l)(F:BT P l=true)(N:∀(j:Nat) (o:Oper),ops[j]?=some o→o.guard=none)(p:∀(j:Nat) (o:Oper) cs b,ops[j]?=some o→o.op≠.select cs b)
  (hQ:∀c a w,¬Q (.panic c) a w) (R:¬LetsOut Q):∀(fuel:Nat) (listed:Array Bool) (a:Act) (w:World),DC ops listed→
   (∀j g,ops[j]?=some g→j≠i→listed.getD j true=false→¬Waits ops j i→l.apart ops g=true∧(BT P g||F6 g)=true)→
   i∈Region.ready .any ops listed→(execOp a.eval l).run P w=.ok (.value v) w→S w→
   wpAnyH P .any ops Q S fuel (listed.setIfInBounds i true) (a.put l.dst v) w→wpAnyH P .any ops Q S (fuel+1) listed a w:=by
 have O:∀{a:Act} {w:World} {K:Act→World→Prop},(execOp a.eval l).run P w=.ok (.value v) w→K (a.put l.dst v) w→wpOp P ops Q i K a w:=fun hy h=>by
  unfold wpOp
  simp only[hi]
  rw[Yj (by simp[Region.wanted,N i l hi])]
  left
  unfold Oper.wp
  rw[hy]
  exact h
 intro fuel
 induction fuel with
 |zero=>
  intro listed a w _ _ q hy T H
  refine⟨fun h=>(by rw[h]at q;cases q),fun j r=>?_⟩
  by_cases f:j=i
  ·grind
  ·have:=ready_mono r f
   rw[H.1]at this
   cases this
 |succ fuel V=>
  intro listed a w J L q hy T H
  refine⟨fun h=>(by rw[h]at q;cases q),fun j r=>?_⟩
  by_cases f:j=i
  ·grind
  ·have d:=H.2 j (ready_mono r f)
   obtain⟨t,g,m,M⟩:=mem_ready.1 r
   have s:=(mem_ready.1 q).1
   obtain⟨A,E⟩:=L j g m f t (J.nowait r s)
   obtain⟨W,X,Y⟩:=Oper.apart_spec A
   obtain⟨Z,q2⟩:=Uh (P:=P) (ρ:=a.eval) E
   unfold wpOp at d⊢
   simp only[m]at d⊢
   have I:∀y,Region.wanted g y=true:=fun y=>by simp[Region.wanted,N j g m]
   rw[Yj (I _)]at d⊢
   rcases d with d|⟨_,d⟩
   case inr=>exact absurd d R
   left
   unfold Oper.wp at d⊢
   rw[execOp_put g (fun cs b=>p j g cs b m) a l.dst v W]at d
   cases e:(execOp a.eval g).run P w with
   |halt x w'=>
    rw[e]at d
    cases x<;>simp only[Oper.upon]at d
    grind
   |ok n w'=>
    have G:=Z _ _ _ e
    obtain⟨u,rfl⟩:=q2 _ _ _ e
    rw[e]at d
    simp only[Oper.upon]at d⊢
    refine⟨d.1,V (listed.setIfInBounds j true) (a.put g.dst u) w' (J.ready r) (fun k ok U C z D=>?_) (ready_mono q (Ne.symm f)) ?_ d.1 ?_⟩
    ·refine L k ok U C ?_ D
     by_cases B:j=k
     ·grind
     ·rw[getD_set_ne true B]at z;exact z
    ·rw[execOp_put l (fun cs b=>p i l cs b hi) a g.dst u Y];exact ej F _ _ _ _ hy G
    ·rw[Rh _ _ f,←Act.put_comm a v u X];exact d.2
theorem dW{β:Nat→Nat}{F:Nat→Prop}{w0:World}(hS0:∀b w,F b→S w→w.heap[b]?=w0.heap[b]?)(hC:∀b,F b→CK w0 b)(hsel:∀(j:Nat) (o:Oper) cs b,L.toArray[j]?=some o→o.op≠.select cs b)(hQ:∀c a w,¬Q (.panic c) a w)(hO:¬LetsOut Q):
  ∀(π:Pl) (env:List (Nat×Nat)) (listed:List Nat) (g:Array Bool) (a:Act) (w:World),g.size=L.length→(∀j,j<L.length→(g.getD j true=true↔j∈listed))→(∀x∈listed,x<L.length)→DC L.toArray g→DK P L env listed π=true→(∀p∈env,F (β p.2))→JF β env a→S w→
   Cq P L Q S π a w→(H6 π=true→wpAnyH P .any L.toArray Q S π.len g a w)∧
    ∀k∈Mx π,wpOp P L.toArray Q k (fun l w'=>S w'∧wpAnyH P .any L.toArray Q S (π.len-1) (g.setIfInBounds k true) l w') a w:=by
 have un:∀(g:Array Bool) (listed:List Nat) (i:Nat),(∀j,j<L.length→(g.getD j true=true↔j∈listed))→i<L.length→listed.any (Nat.beq i)=false→g.getD i true=false:=fun g listed i hl Y c1=>by
  cases hb:g.getD i true with
  |false=>rfl
  |true=>have:=DD.2 ((hl i Y).1 hb);rw[c1]at this;cases this
 have next:∀(g:Array Bool) (listed:List Nat) (i:Nat),g.size=L.length→(∀j,j<L.length→(g.getD j true=true↔j∈listed))→∀j,j<L.length→((g.setIfInBounds i true).getD j true=true↔j∈i::listed):=fun g listed i hs hl j hj=>by
  by_cases D:i=j
  ·subst D
   simp only[YJ,true_or,iff_true]
   simp[hs,hj]
  ·rw[getD_set_ne true D,hl j hj,YJ]
   exact⟨.inr,fun h=>h.resolve_left (Ne.symm D)⟩
 have rdy:∀(g:Array Bool) (listed:List Nat) (i:Nat) (f:Oper),g.size=L.length→(∀j,j<L.length→(g.getD j true=true↔j∈listed))→(∀x∈listed,x<L.length)→L[i]?=some f→listed.any (Nat.beq i)=false→
   f.after.toList.all (fun e=>!Region.binds .any e||listed.any (Nat.beq e.on))=true→i∈Region.ready .any L.toArray g:=fun g listed i f hs hl B hi c1 c2=>
  mem_ready.2 ⟨un g listed i hl (Yk.1 hi).1 c1,f,by simpa using hi,fun e he hb=>by
   have V:=Yo.1 c2 e (by simpa using he)
   rw[hb]at V
   simp only[YU,Iw]at V
   have hm:=DD.1 V
   have X:=B _ hm
   have A:=(hl _ X).2 hm
   simp only[Yp]at A⊢
   rw[Ym (by omega)]at A⊢
   simpa using A⟩
 have envF:∀(env:List (Nat×Nat)) (o:Oper),(∀p∈env,F (β p.2))→∀p∈BP P env o,F (β p.2):=fun env o hF p hp=>by
  unfold BP at hp
  split at hp
  ·exact hF p hp
  ·rcases J2.1 hp with hp|hp
   ·split at hp
    ·split at hp
     ·rename_i r R
      have e:=Iq.1 hp
      rw[e]
      have:=hF _ (Gt R)
      exact this
     ·cases hp
    ·cases hp
   ·exact hF p (J1.1 hp).1
 have m:∀(env:List (Nat×Nat)) (o:Oper) (a l:Act) (w:World) (N:Act→World→Prop),Bn P L.toArray Q o a w N→Ib P o=true→JF β env a→GQ o a l→(o.guard=none→∀v w1,(execOp a.eval o).run P w=.ok (.value v) w1→l=a.put o.dst v)→JF β (BP P env o) l:=fun env o a l w N hw hgk M V X=>by
  refine M.put (P:=P) (w:=w) V fun z hz=>?_
  have E:o.guard=none:=by
   unfold Ib at hgk
   rw[hz]at hgk
   exact KD (by simpa using hgk)
  have hw:=hw.un E
  have X:=X E
  have hv:BY P o=true:=by unfold FF at hz;cases hv:BY P o with|true=>rfl|false=>rw[hv]at hz;cases hz
  obtain⟨v1,v2⟩:=K2 (P:=P) (ρ:=a.eval) hv
  unfold Oper.wp at hw
  cases d:(execOp a.eval o).run P w with
  |halt x w'=>
   rw[d]at hw
   cases x<;>simp only[Oper.upon]at hw
   exact absurd hw (hQ _ _ _)
  |ok n w'=>
   obtain⟨u,rfl⟩:=v2 _ _ _ d
   exact⟨u,w',rfl,X u w' d⟩
 intro π
 induction π with
 |nil=>
  intro env listed g a w hs hl B hD G hF M hS h
  unfold DK at G
  rw[Yo]at G
  refine⟨fun _=>⟨?_,h⟩,fun k K=>by cases K⟩
  cases R:Region.ready .any L.toArray g with
  |nil=>rfl
  |cons x xs=>
   have hx:x∈Region.ready .any L.toArray g:=by rw[R];exact YH ..
   obtain⟨h0,o,ho,_⟩:=mem_ready.1 hx
   have B:x<L.length:=by have:=(Yz.1 ho).1;simpa using this
   have:=(hl x B).2 (DD.1 (G x (Kf.2 B)))
   rw[h0]at this
   cases this
 |two i j x y ihx ihy=>
  intro env listed g a w hs hl B hD G hF M hS h
  unfold DK at G
  unfold Cq at h
  cases hi:L[i]? with
  |none=>rw[Bk,hi]at G;simp at G
  |some f=>
   cases hj:L[j]? with
   |none=>rw[Bk,Bk,hi,hj]at G;simp at G
   |some U=>
    rw[Bk,Bk,hi,hj]at G h
    dsimp only at h
    simp only[Yc,Y3]at G
    obtain⟨⟨⟨⟨⟨⟨⟨⟨⟨c0,c1⟩,c2⟩,c5⟩,W,cgj⟩,c6⟩,c7⟩,c8⟩,cx⟩,cy⟩:=G
    refine⟨fun _=>?_,fun k K=>by cases K⟩
    have Y:i<L.length:=(Yk.1 hi).1
    have hjL:j<L.length:=(Yk.1 hj).1
    obtain⟨V,X⟩:=h
    have lt':∀k,k<L.length→∀z∈k::listed,z<L.length:=fun k K z hz=>by
     rcases YJ.1 hz with rfl|hz
     ·exact K
     ·exact B z hz
    show wpAnyH P .any L.toArray Q S (x.len+1) g a w
    have hready:∀k∈Region.ready .any L.toArray g,k=i∨k=j:=fun k K=>by
     obtain⟨k0,ok,Z,s⟩:=mem_ready.1 K
     have hkl:k<L.length:=by have:=(Yz.1 Z).1;simpa using this
     have:=TJ (k:=k) c5 (by simpa using Z)
     rw[YL]at this
     rcases this with A|A|A|⟨e,he,hb,J⟩
     ·have:=(hl k hkl).2 A;rw[k0]at this;cases this
     ·exact .inl A
     ·exact .inr A
     ·have T:=s e he hb
      have h5:e.on<L.length:=by
       rcases Yw e.on g.size with h|h
       ·omega
       ·simp[YV h,Yp]at T
      refine absurd ((hl e.on h5).1 ?_) J
      simp only[Yp]at T⊢
      rw[Ym (by omega)]at T⊢
      simpa using T
    have R:=rdy g listed i f hs hl B hi c1 c0
    refine⟨fun h0=>(by rw[h0]at R;cases R),fun k K=>?_⟩
    rcases hready k K with rfl|rfl
    ·have hkA:L.toArray[k]?=some f:=by simpa using hi
     exact(V.put.mono fun l w' q=>⟨q.1.1,(ihx (BP P env f) (k::listed) _ l w' (by simp[hs]) (next g listed k hs hl) (lt' k Y) (hD.ready K) c7 (envF env f hF) (m env f a l w _ V W M q.2.1 q.2.2) q.1.1 q.1.2).1 cx⟩).op hkA
    ·have hkA:L.toArray[k]?=some U:=by simpa using hj
     rw[Ya c6]
     exact(X.put.mono fun l w' q=>⟨q.1.1,(ihy (BP P env U) (k::listed) _ l w' (by simp[hs]) (next g listed k hs hl) (lt' k hjL) (hD.ready K) c8 (envF env U hF) (m env U a l w _ X cgj M q.2.1 q.2.2) q.1.1 q.1.2).1 cy⟩).op hkA
 |opt hh0 i x y ihx ihy=>
  intro env listed g a w hs hl B hD G hF M hS h
  unfold DK at G
  unfold Cq at h
  cases hi:L[i]? with
  |none=>rw[Bk,hi]at G;simp at G
  |some f=>
   rw[Bk,hi]at G h
   dsimp only at h
   simp only[Yc,Y3,YD]at G
   obtain⟨⟨⟨⟨⟨⟨c0,c1⟩,c5⟩,W⟩,c7⟩,cx⟩,cy⟩:=G
   have Y:i<L.length:=(Yk.1 hi).1
   obtain⟨V,X⟩:=h
   have lt':∀k,k<L.length→∀z∈k::listed,z<L.length:=fun k K z hz=>by
    rcases YJ.1 hz with rfl|hz
    ·exact K
    ·exact B z hz
   have R:=rdy g listed i f hs hl B hi c1 c0
   have hB:∀k∈Mx (.opt hh0 i x y),wpOp P L.toArray Q k (fun l w'=>S w'∧wpAnyH P .any L.toArray Q S x.len (g.setIfInBounds k true) l w') a w:=fun k K=>by
    rcases YJ.1 K with rfl|K
    ·have hkA:L.toArray[k]?=some f:=by simpa using hi
     exact(V.put.mono fun l w' q=>⟨q.1.1,(ihx (BP P env f) (k::listed) _ l w' (by simp[hs]) (next g listed k hs hl) (lt' k Y) (hD.ready R) c7 (envF env f hF) (m env f a l w _ V W M q.2.1 q.2.2) q.1.1 q.1.2).1 cx⟩).op hkA
    ·have hy:LP y=true:=by cases y with|opt _ _ _ _=>rfl|_=>cases K
     rcases cy with cy|⟨cy,cz⟩
     ·rw[hy]at cy;cases cy
     ·have:=(ihy env listed g a w hs hl B hD cz hF M hS (X hy)).2 k K
      rw[Ya cy,Nat.add_sub_cancel]at this
      exact this
   refine⟨fun hcov=>?_,hB⟩
   show wpAnyH P .any L.toArray Q S (x.len+1) g a w
   refine⟨fun h0=>(by rw[h0]at R;cases R),fun k K=>hB k ?_⟩
   obtain⟨k0,ok,Z,s⟩:=mem_ready.1 K
   have hkl:k<L.length:=by have:=(Yz.1 Z).1;simpa using this
   have:=OL (k:=k) c5 (by simpa using Z)
   rw[YL]at this
   rcases this with A|A|⟨e,he,hb,J⟩
   ·have:=(hl k hkl).2 A;rw[k0]at this;cases this
   ·exact DD.1 (Yo.1 hcov k A)
   ·have T:=s e he hb
    have h5:e.on<L.length:=by
     rcases Yw e.on g.size with h|h
     ·omega
     ·simp[YV h,Yp]at T
    refine absurd ((hl e.on h5).1 ?_) J
    simp only[Yp]at T⊢
    rw[Ym (by omega)]at T⊢
    simpa using T
 |fst i rest ih=>
  intro env listed g a w hs hl B hD G hF M hS h
  unfold DK at G
  unfold Cq at h
  cases hi:L[i]? with
  |none=>rw[Bk,hi]at G;simp at G
  |some f=>
   rw[Bk,hi]at G h
   dsimp only at h
   simp only[Yc,Y3]at G
   obtain⟨⟨⟨⟨⟨c1,c2⟩,c3⟩,W⟩,c4⟩,c9⟩:=G
   refine⟨fun _=>?_,fun k K=>by cases K⟩
   have Y:i<L.length:=(Yk.1 hi).1
   have hiA:L.toArray[i]?=some f:=by simpa using hi
   have hun:=un g listed i hl Y c1
   have R:=rdy g listed i f hs hl B hi c1 c2
   have hlt':∀x∈i::listed,x<L.length:=fun x hx=>by
    rcases YJ.1 hx with rfl|hx
    ·exact Y
    ·exact B x hx
   have ih:∀l w',S w'→JF β (BP P env f) l→Cq P L Q S rest l w'→wpAnyH P .any L.toArray Q S rest.len (g.setIfInBounds i true) l w':=fun l w' hS' hJ' h=>
    (ih (BP P env f) (i::listed) _ l w' (by simp[hs]) (next g listed i hs hl) hlt' (hD.ready R) c4 (envF env f hF) hJ' hS' h).1 c9
   have hli:∀j,j<L.length→g.getD j true=false→j∉listed:=fun j hj hun hm=>by
    have:=(hl j hj).2 hm
    rw[hun]at this
    cases this
   have free:Js.chkV P L listed i f 0 L=true→∀j U,L.toArray[j]?=some U→j≠i→g.getD j true=false→(∀e∈U.after,Region.binds .any e=true→e.on≠i)→f.apart L.toArray U=true:=fun c3 j U O D H J=>by
    have hjl:j<L.length:=by have:=(Yz.1 O).1;simpa using this
    have:=TW (k:=j) c3 (by simpa using O)
    rw[YL]at this
    rcases this with A|A|⟨e,he,hb,he2⟩|A
    ·exact absurd A (hli j hjl H)
    ·exact absurd A D
    ·exact absurd he2 (J e he hb)
    ·exact A
   show wpAnyH P .any L.toArray Q S (rest.len+1) g a w
   by_cases hv:(C8 f&&BY P f)=true
   ·rw[Yc]at hv
    obtain⟨I,hv⟩:=hv
    have E:=KD I
    rw[I,hv]at c3
    simp only[Bool.true_or,Ew]at c3
    have h:=h.un E
    have m:∀(env:List (Nat×Nat)) (o:Oper) (a l:Act) (w:World) (N:Act→World→Prop),o=f→o.wp P a w N Q→JF β env a→GQ o a l→(∀v w1,(execOp a.eval o).run P w=.ok (.value v) w1→l=a.put o.dst v)→JF β (BP P env o) l:=fun env o a l w N he hw M V X=>by
     subst he
     exact m env o a l w N (by unfold Bn;rw[Yj (by simp[Region.wanted,E])];exact hw) W M V fun _=>X
    obtain⟨v1,v2⟩:=K2 (P:=P) (ρ:=a.eval) hv
    have h0:=h
    unfold Oper.wp at h
    cases d:(execOp a.eval f).run P w with
    |halt x w'=>
     rw[d]at h
     cases x<;>simp only[Oper.upon]at h
     exact absurd h (hQ _ _ _)
    |ok n w'=>
     obtain⟨rfl,v3⟩:=v1 _ _ _ d
     obtain⟨u,rfl⟩:=v2 _ _ _ d
     rw[d]at h
     simp only[Oper.upon]at h
     exact wpAnyH_first hiA hsel (fun c a w hq=>absurd hq (hQ _ _ _)) rest.len g a w' (free c3) R (.inl ⟨by simp[Region.wanted,E],fun w2 _=>v3 w2⟩) hS (ih _ _ h.1 (m env f a _ w' _ rfl h0 M ⟨u,fun _=>rfl⟩ fun v w1 e=>by rw[d]at e;cases e;rfl) h.2)
   ·by_cases q:(C8 f&&Jd env f)=true
    ·rw[Yc]at q
     obtain⟨I,q⟩:=q
     have E:=KD I
     rw[I,q]at c3
     simp only[Bool.or_true,Ew]at c3
     rw[I,Hb]at hv
     have hv':BY P f=false:=by cases hq:BY P f with|false=>rfl|true=>exact absurd hq hv
     have h:=h.un E
     have m:∀(env:List (Nat×Nat)) (o:Oper) (a l:Act) (w:World) (N:Act→World→Prop),o=f→o.wp P a w N Q→JF β env a→GQ o a l→(∀v w1,(execOp a.eval o).run P w=.ok (.value v) w1→l=a.put o.dst v)→JF β (BP P env o) l:=fun env o a l w N he hw M V X=>by
      subst he
      exact m env o a l w N (by unfold Bn;rw[Yj (by simp[Region.wanted,E])];exact hw) W M V fun _=>X
     obtain⟨t,x,y,r,ho,hy,he⟩:∃t x y r,f.op=.load t x∧GG x=some y∧FD y env=some r:=by
      unfold Jd at q
      split at q
      ·rename_i t x ho
       split at q
       ·rename_i y hy
        obtain⟨r,R⟩:=YM.1 q
        exact⟨t,x,y,r,ho,hy,R⟩
       ·cases q
      ·cases q
     have hrd:BT P f=true:=by unfold BT;rw[hv',ho];rfl
     obtain⟨v1,v2⟩:=IZ (P:=P) (ρ:=a.eval) hrd
     have h0:=h
     unfold Oper.wp at h
     cases d:(execOp a.eval f).run P w with
     |halt x w'=>
      rw[d]at h
      cases x<;>simp only[Oper.upon]at h
      exact absurd h (hQ _ _ _)
     |ok n w'=>
      have e:=v1 _ _ _ d
      subst e
      obtain⟨u,rfl⟩:=v2 _ _ _ d
      rw[d]at h
      simp only[Oper.upon]at h
      have hyl:YieldsIf P L.toArray S f u a:=.inl ⟨by simp[Region.wanted,E],fun w2 hS2=>by
       obtain⟨b,hb,hlo⟩:=gh (w2:=w2) ho d
       have hb':b=β r:=M _ (Gt he) b (by rw[←KM hy];exact hb)
       have hFb:F b:=by rw[hb'];exact hF _ (Gt he)
       have e1:=hS0 b w' hFb hS
       have e2:=hS0 b w2 hFb hS2
       obtain⟨C,q1,q2,q3⟩:=hC b hFb
       exact hlo ⟨C,q1,q2,by rw[e1];exact q3⟩ (by rw[e1,e2])⟩
      exact wpAnyH_first hiA hsel (fun c a w hq=>absurd hq (hQ _ _ _)) rest.len g a w' (free c3) R hyl hS (ih _ _ h.1 (m env f a _ w' _ rfl h0 M ⟨u,fun _=>rfl⟩ fun v w1 e=>by rw[d]at e;cases e;rfl) h.2)
    ·have hq0:(C8 f&&(BY P f||Jd env f))=false:=by
      cases V:C8 f<;>cases X:BY P f<;>cases A:Jd env f<;>simp_all
     rw[hq0]at c3
     dsimp only at c3
     by_cases s:L.all C8=true
     case neg=>
      have s:L.all C8=false:=by cases hq:L.all C8 with|false=>rfl|true=>exact absurd hq s
      rw[s]at c3
      dsimp only at c3
      refine⟨fun h0=>(by rw[h0]at R;cases R),fun k K=>?_⟩
      have hki:k=i:=by
       obtain⟨k0,ok,Z,s⟩:=mem_ready.1 K
       have hkl:k<L.length:=by have:=(Yz.1 Z).1;simpa using this
       have:=OL (k:=k) c3 (by simpa using Z)
       rw[YL]at this
       rcases this with A|A|⟨e,he,hb,J⟩
       ·have:=(hl k hkl).2 A;rw[k0]at this;cases this
       ·exact Iq.1 A
       ·have T:=s e he hb
        have h5:e.on<L.length:=by
         rcases Yw e.on g.size with h|h
         ·omega
         ·simp[YV h,Yp]at T
        refine absurd ((hl e.on h5).1 ?_) J
        simp only[Yp]at T⊢
        rw[Ym (by omega)]at T⊢
        simpa using T
      subst hki
      exact(h.put.mono fun l w' q=>⟨q.1.1,ih l w' q.1.1 (m env f a l w _ h W M q.2.1 q.2.2) q.1.2⟩).op hiA
     rw[s]at c3
     dsimp only at c3
     have hu:∀(j:Nat) (o:Oper),L.toArray[j]?=some o→o.guard=none:=fun j o ho=>KD (Yo.1 s o (Yi (by simpa using ho)))
     have E:=hu i f hiA
     have I:C8 f=true:=Yo.1 s f (Yi hi)
     rw[I,Hb]at hv
     have h:=h.un E
     have h':=Uw h
     have m:∀(env:List (Nat×Nat)) (o:Oper) (a l:Act) (w:World) (N:Act→World→Prop),o=f→o.wp P a w N Q→JF β env a→GQ o a l→(∀v w1,(execOp a.eval o).run P w=.ok (.value v) w1→l=a.put o.dst v)→JF β (BP P env o) l:=fun env o a l w N he hw M V X=>by
      subst he
      exact m env o a l w N (by unfold Bn;rw[Yj (by simp[Region.wanted,E])];exact hw) W M V fun _=>X
     have at_:∀j U,L.toArray[j]?=some U→j≠i→g.getD j true=false→¬Waits L.toArray j i→f.apart L.toArray U=true∧BT P f=true∧(BT P U||F6 U)=true:=fun j U O D H J=>by
      have hjl:j<L.length:=by have:=(Yz.1 O).1;simpa using this
      have:=T6 (k:=j) c3 (by simpa using O)
      rw[YL]at this
      rcases this with A|A|A|⟨A,T⟩
      ·exact absurd A (hli j hjl H)
      ·exact absurd A D
      ·exact absurd A J
      ·rcases T with T|T
       ·exact absurd T hv
       ·exact⟨A,T⟩
     by_cases hrd:BT P f=true
     ·obtain⟨v1,v2⟩:=IZ (P:=P) (ρ:=a.eval) hrd
      have h0:=h
      unfold Oper.wp at h
      cases d:(execOp a.eval f).run P w with
      |halt x w'=>
       rw[d]at h
       cases x<;>simp only[Oper.upon]at h
       exact absurd h (hQ _ _ _)
      |ok n w'=>
       have e:=v1 _ _ _ d
       subst e
       obtain⟨u,rfl⟩:=v2 _ _ _ d
       rw[d]at h
       simp only[Oper.upon]at h
       exact bK hiA hrd hu hsel hQ hO rest.len g a w' hD (fun j U O D H J=>⟨(at_ j U O D H J).1,(at_ j U O D H J).2.2⟩) R d hS (ih _ _ h.1 (m env f a _ w' _ rfl h0 M ⟨u,fun _=>rfl⟩ fun v w1 e=>by rw[d]at e;cases e;rfl) h.2)
     ·refine⟨fun h0=>(by rw[h0]at R;cases R),fun j hj=>?_⟩
      have D:j=i:=by
       apply Classical.byContradiction
       intro D
       obtain⟨H,U,O,_⟩:=mem_ready.1 hj
       exact hrd (at_ j U O D H (hD.nowait hj hun)).2.1
      subst D
      unfold wpOp
      simp only[hiA]
      rw[Yj (by simp[Region.wanted,hu j f hiA])]
      exact .inl (Oper.wp_mono (fun l w' q=>⟨q.1.1,ih l w' q.1.1 (m env f a l w _ rfl h M q.2.1 q.2.2) q.1.2⟩) h')
end
def Fa(r:Ren):List (Aa×Blk)→Prop
 |[]=>True
 |(k,_)::t=>match Nat.beq k.1 1 with|true=>Fa r t|false=>G5 r k∧Fa r t
def L6:List (Aa×Blk)→Hp→Hp
 |[],H=>H
 |(k,b)::t,H=>L6 t (updH H k b)
def ZK(P:Program)(l n os:Nat)(r:Ren)(d:Option Nat)(e:AV)(xs:List AV)(a:AT)(K:St→AT→Prop)(τ:St):Prop:=
 match e,a with
 |.fn (.func f) [] [],.hard x ks c [] b=>(match ks.all (AZ os),B1 os c with
  |true,true=>EL P l r f xs (ks.map fun k=>(k,τ.H k)) x c []∧Fa r c∧L9 n K τ.s (L6 c τ.H) x b d
  |_,_=>False)
 |_,_=>False
def iT:AT→Bool
 |.hard _ _ _ _ _=>true
 |_=>false
def Qa(P:Program)(T:Nat→Option TI)(l n os:Nat)(r:Ren)(o:Oper)(a:AT)(K:St→AT→Prop)(τ:St):Prop:=
 match iT a,o.op with
 |true,.call c=>(match c.callee with
  |.value b=>ZK P l n os r o.dst (ev τ.s b) (c.args.toList.map (ev τ.s)) a K τ
  |_=>False)
 |_,_=>ET P T l n r o a K τ
section
variable {P:Program} {T:Nat→Option TI} {r:Ren} {l n outs:Nat} {B:Base} {env:AR} {τ σ:St} {a:AT} {o:Oper} {K:St→AT→Prop}
theorem S1(g:RenOk r l outs):∀(a:List (Aa×Blk)) {τ σ:St},B1 outs a=true→Fa r a→RG r l outs env τ σ→RG r l outs env ⟨τ.s,L6 a τ.H⟩ ⟨σ.s,BQ r a σ.H⟩
 |[],τ,σ,_,_,h=>h
 |(k,b)::t,τ,σ,f,c,h=>by
  simp only[B1,Yc]at f
  obtain⟨⟨⟨j,m⟩,o⟩,n⟩:=f
  have e:GK r outs k∧Fa r t:=by
   unfold Fa at c
   rcases DH j with d|⟨d,i⟩
   ·rw[d]at c;exact⟨.inl d,c⟩
   ·rw[d]at c;exact⟨.inr ⟨d,i,c.1.2⟩,c.2⟩
  exact S1 g t (τ:=⟨τ.s,updH τ.H k b⟩) (σ:=⟨σ.s,updH σ.H (r.κ k) (An r k b)⟩) n e.2 (RG.updH g h k b m e.1)
theorem em(F:RenOk r l outs)(O:AL P T)(h:RG r l outs env τ σ)(u:Bm env [] o.op=true)(H:EE env o.dst=true)(d:Qa P T l n outs r o a K τ):Bs P l n B o (KA r l n outs B (CU env o.dst) K) σ:=by
 unfold Qa at d
 split at d
 case h_2=>exact Tj F O h u H d
 rename_i c U I
 split at d
 case h_2=>exact d.elim
 rename_i t e
 unfold ZK at d
 split at d
 case h_2=>exact d.elim
 rename_i f x ks j b D
 split at d
 case h_2=>exact d.elim
 rename_i E m
 obtain⟨M,A,N⟩:=d
 have ops:∀x∈o.op.operands,ev σ.s x=ren r (ev τ.s x):=by
  unfold Bm at u
  split at u
  ·grind
  ·exact DA h AJ u
 rw[I]at ops
 have g:∀x,x=t∨x∈c.args.toList→x∈(Op.call c).operands:=fun x hx=>by
  simp only[Op.operands,Call.operands,e]
  grind
 have C:ev σ.s t=.fn (.func f) [] []:=by rw[ops t (g t (.inl rfl)),D];simp[ren,Ae]
 have G:=M σ.H (fun p d=>by
  obtain⟨q,Q,rfl⟩:=YO.1 d
  have s:=DH (Yo.1 E q Q)
  refine⟨?_,fun hl=>h.h q hl⟩
  obtain⟨V,J⟩:=q
  simp only at s
  rcases s with rfl|⟨rfl,A⟩
  ·have:=h.g J
   rw[←F.own]at this
   exact this
  ·exact h.go J A) h.o
 have i:Ae r (c.args.toList.map (ev τ.s))=c.args.toList.map (ev σ.s):=by
  rw[Dc,Eo]
  exact Y1 fun y hy=>(ops y (g y (.inr hy))).symm
 refine Gs ?_
 unfold AX
 rw[I]
 simp only[e,C,Et,J0]
 rw[i]at G
 refine G.mono fun y v ⟨S,L,w,z⟩=>?_
 have R:S=r.γ:=funext fun k=>L k (by simp)
 subst R
 have w:y=ren r x:=w
 have z:v=BQ r j σ.H:=z
 subst z
 exact TU (τ':=⟨τ.s,L6 j τ.H⟩) H (S1 F j m A h) w N
end
def LX(P:Program)(T:Nat→Option TI)(l n os:Nat)(r:Ren)(ds:List (Option Nat))(o:Oper)(env:AR)(a:AT)(K:St→AR→AT→Prop)(τ:St):Prop:=
 match o.guard with
 |none=>(match Bm env [] o.op,EE env o.dst with
  |true,true=>Qa P T l n os r o a (fun τ' c=>K τ' (CU env o.dst) c) τ
  |_,_=>False)
 |some (i,b)=>(match AS ds i,o.dst with
  |some (some d),some e=>(match DG τ.s ((d,b)::lk env d),Bm env ((d,b)::lk env d) o.op,fresh e env&&GD e ((d,b)::lk env d),Nat.ble (e+1) n with
   |some g,true,true,true=>pV P T l r τ o.op (some g) a (fun v c=>K ⟨upd τ.s e v,τ.H⟩ ((e,(d,b)::lk env d)::env) c)
   |_,_,_,_=>False)
  |_,_=>False)
def JE:AR→Bool
 |[]=>true
 |(_,[])::r=>JE r
 |_=>false
theorem OT:∀{env:AR},JE env=true→∀j,lk env j=[]
 |[],_,_=>rfl
 |(i,[])::r,h,j=>by
  unfold lk
  split
  ·rfl
  ·exact OT (env:=r) h j
 |(_,_::_)::_,h,_=>by cases h
theorem Ua{r:Ren}{l outs:Nat}{env a:AR}{τ σ:St}(h:JE env=true)(c:JE a=true)(b:RG r l outs env τ σ):RG r l outs a τ σ:=
 ⟨fun j=>by have:=b.s j;rw[OT h]at this;rw[OT c];exact this,b.h,b.g,b.go,b.k,b.o⟩
def Gz(P:Program)(T:Nat→Option TI)(l n os:Nat)(r:Ren)(ds:List (Option Nat))(cm:List Nat)(i:Nat)(o:Oper)(env:AR)(a:AT)(K:St→AR→AT→Prop)(τ:St):Prop:=
 match cm.any (Nat.beq i),JE env with
 |true,true=>AG r os a τ (fun τ' b=>LX P T l n os r ds o env b K τ')
 |_,_=>LX P T l n os r ds o env a K τ
def DS(P:Program)(T:Nat→Option TI)(l n os:Nat)(r:Ren)(L:List Oper)(cm:List Nat):Pl→AR→AT→(St→AR→AT→Prop)→St→Prop
 |.nil,env,a,K,τ=>K τ env a
 |.fst i x,env,a,K,τ=>match AS L i with
  |some o=>Gz P T l n os r (L.map (·.dst)) cm i o env a (fun τ' b c=>DS P T l n os r L cm x b c K τ') τ
  |none=>False
 |.two i j x y,env,a,K,τ=>match AS L i,AS L j,a with
  |some o,some e,.br a1 d=>Gz P T l n os r (L.map (·.dst)) cm i o env a1 (fun τ' b c=>DS P T l n os r L cm x b c K τ') τ∧Gz P T l n os r (L.map (·.dst)) cm j e env d (fun τ' b c=>DS P T l n os r L cm y b c K τ') τ
  |_,_,_=>False
 |.opt _ i x y,env,a,K,τ=>match AS L i with
  |some o=>(match LP y with
   |true=>(match a with
    |.br a1 d=>Gz P T l n os r (L.map (·.dst)) cm i o env a1 (fun τ' b c=>DS P T l n os r L cm x b c K τ') τ∧DS P T l n os r L cm y env d K τ
    |_=>False)
   |false=>Gz P T l n os r (L.map (·.dst)) cm i o env a (fun τ' b c=>DS P T l n os r L cm x b c K τ') τ)
  |none=>False
section
variable {P:Program} {T:Nat→Option TI} {r:Ren} {l n outs:Nat} {B:Base}
theorem Sk(Z:RenOk r l outs)(G:AL P T){L:List Oper}{K:St→AR→AT→Prop}{QQ:Exit→Act→World→Prop}{o:Oper}{env:AR}{a:AT}{τ σ:St}{act:Act}{w:World}(h:LX P T l n outs r (L.map (·.dst)) o env a K τ)(t:RG r l outs env τ σ)(x:R l n B σ act w):
  Bn P L.toArray QQ o act w (fun c w'=>∃τ' k j A,K τ' k j∧RG r l outs k τ' A∧R l n B A c w'):=by
 unfold LX at h
 unfold Bn
 split at h
 ·rename_i z
  rw[Yj (by simp[Region.wanted,z])]
  split at h
  case h_2=>exact h.elim
  rename_i U Y
  refine Oper.wp_mono (fun c w' E=>?_) (em (B:=B) Z G t U Y h act w x QQ)
  obtain⟨A,⟨F,⟨τ',j,q,C⟩,M⟩,N⟩:=E
  exact⟨τ',_,j,F,q,C,M _ _ N⟩
 ·rename_i i b z
  split at h
  case h_2=>exact h.elim
  rename_i d e V he
  split at h
  case h_2=>exact h.elim
  rename_i g p hx f u
  simp only[Yc]at f
  have u:=Yd u
  have D:=Od t V p
  have hy:(yielded L.toArray act.tmps i==some b)=g:=by
   obtain⟨s,H⟩:=σ
   obtain⟨m,S,hO,I,W,Q,X⟩:=x.un
   exact Oq Q (by simpa using D)
  cases g with
  |true=>
   have hs:=(Fr p).1 rfl
   rw[Yj (by simp only[Region.wanted,z];exact hy)]
   have O:Bs P l n B o (Yl r e (fun v j=>K ⟨upd τ.s e v,τ.H⟩ ((e,(d,b)::lk env d)::env) j) σ) σ:=Gs (by
    obtain⟨J,op,ty,ps,af,gd⟩:=o
    simp only at he
    subst he
    exact Pj G t hs (fun b' e'=>by cases e';rfl) hx (by omega) h)
   refine Oper.wp_mono (fun c w' E=>?_) (O act w x QQ)
   obtain⟨A,⟨v,j,rfl,q⟩,C⟩:=E
   exact⟨_,_,j,_,q,t.put f.1 f.2 (fun _=>rfl) (fun I=>absurd hs I),C⟩
  |false=>
   have hs:¬BK τ.s ((d,b)::lk env d):=fun hs=>by have:=(Fr p).2 hs;cases this
   obtain⟨v,j,q⟩:=Ly h
   rw[Yq (by simp only[Region.wanted,z,hy];decide),he]
   exact⟨_,_,j,_,q,t.put f.1 f.2 (y:=.tup []) (fun h=>absurd h hs) (fun _=>rfl),R.undef x (by omega)⟩
theorem IL(m:RenOk r l outs)(k:AL P T)(t:∀(a:AT) {τ σ:St} {K:St→AT→Prop},AG r outs a τ K→RG r l outs [] τ σ→∃τ' f d,K τ' f∧RG r l outs [] τ' d∧∀b w,R l n B σ b w→R l n B d b w)
  {L:List Oper} {cm:List Nat} {i:Nat} {K:St→AR→AT→Prop} {QQ:Exit→Act→World→Prop} {o:Oper} {env:AR} {a:AT} {τ σ:St} {b:Act} {w:World} (h:Gz P T l n outs r (L.map (·.dst)) cm i o env a K τ) (g:RG r l outs env τ σ) (j:R l n B σ b w):
  Bn P L.toArray QQ o b w (fun e w'=>∃τ' c f d,K τ' c f∧RG r l outs c τ' d∧R l n B d e w'):=by
 unfold Gz at h
 split at h
 ·rename_i he
  obtain⟨τ',f,d,p,q,s⟩:=t _ h (Ua he rfl g)
  exact Sk m k p (Ua rfl he q) (s _ _ j)
 ·exact Sk m k h g j
theorem bV(C:RenOk r l outs)(z:AL P T)(u:∀(a:AT) {τ σ:St} {K:St→AT→Prop},AG r outs a τ K→RG r l outs [] τ σ→∃τ' s k,K τ' s∧RG r l outs [] τ' k∧∀d w,R l n B σ d w→R l n B k d w){L:List Oper}{cm:List Nat}{K:St→AR→AT→Prop}{QQ:Exit→Act→World→Prop}{S:World→Prop}(v:∀σ a w,R l n B σ a w→S w)
  (F:∀τ' c s k b w',K τ' c s→RG r l outs c τ' k→R l n B k b w'→QQ .normal b w'):
  ∀(π:Pl) (env:AR) (a:AT) (τ σ:St) (d:Act) (w:World),DS P T l n outs r L cm π env a K τ→RG r l outs env τ σ→R l n B σ d w→Cq P L QQ S π d w:=by
 intro π
 induction π with
 |nil=>intro env a τ σ d w h f g;exact F _ _ _ _ _ _ h f g
 |fst i x G=>
  intro env a τ σ d w h f g
  unfold DS at h
  split at h
  ·rename_i o A
   unfold Cq
   rw[A]
   exact(IL C z u h f g).mono fun b w' ⟨τ',c,s,k,m,p,e⟩=>⟨v _ _ _ e,G _ _ _ _ _ _ m p e⟩
  ·exact h.elim
 |two i j x y q t=>
  intro env a τ σ d w h f g
  unfold DS at h
  split at h
  ·rename_i o I a1 H A D
   unfold Cq
   rw[A,D]
   exact⟨(IL C z u h.1 f g).mono fun b w' ⟨τ',c,s,k,m,p,e⟩=>⟨v _ _ _ e,q _ _ _ _ _ _ m p e⟩,(IL C z u h.2 f g).mono fun b w' ⟨τ',c,s,k,m,p,e⟩=>⟨v _ _ _ e,t _ _ _ _ _ _ m p e⟩⟩
  ·exact h.elim
 |opt hs i x y q t=>
  intro env a τ σ d w h f g
  unfold DS at h
  split at h
  ·rename_i o A
   unfold Cq
   rw[A]
   split at h
   ·split at h
    ·exact⟨(IL C z u h.1 f g).mono fun b w' ⟨τ',c,s,k,m,p,e⟩=>⟨v _ _ _ e,q _ _ _ _ _ _ m p e⟩,fun _=>t _ _ _ _ _ _ h.2 f g⟩
    ·exact h.elim
   ·rename_i hy
    exact⟨(IL C z u h f g).mono fun b w' ⟨τ',c,s,k,m,p,e⟩=>⟨v _ _ _ e,q _ _ _ _ _ _ m p e⟩,fun E=>by rw[hy]at E;cases E⟩
  ·exact h.elim
end
def zB(s:Nat→AV):List Nat→Bool
 |[]=>true
 |z::r=>(match s z with|.iptr (_::_) _=>true|_=>false)&&zB s r
theorem WU{s:Nat→AV}:∀{Z:List Nat},zB s Z=true→∀z∈Z,∃x ds off,s z=.iptr (x::ds) off
 |[],_,z,a=>by cases a
 |y::r,h,z,a=>by
  simp only[zB,Yc]at h
  rcases YJ.1 a with rfl|a
  ·grind
  ·exact WU h.2 z a
def Qh(o:Oper):Bool:=match o.op with
 |.select _ _=>false
 |_=>true
def Xc(P:Program)(π:Pl)(Z:List Nat):Code→Bool
 |.region _ ops true=>ops.toList.all Qh&&Nat.beq π.len ops.toList.length&&DK P ops.toList (Z.map fun z=>(z,z)) [] π&&H6 π
 |_=>false
section
variable {P:Program} {T:Nat→Option TI} {n:Nat} {C:Cx} {τ:St} {Q:Exit→St→Prop} {os:Nat} {c:Code} {β:Type} {L:β→Prop} {y:β}
theorem EP{fx:List Nat}(co:COx C os fx)(hT:AL P T)(hm':P.follows .mixedOrders=true)(π:Pl)(Z:List Nat)(v:PT os β)(lf:Lf)(hv:v.m=some y)(hL:HL L y)(hn:∀r (g:Gd C r),v.n ⟨⟨C.l,r,Q,fun _ _=>False⟩,L,C,_,co,g,rfl⟩)(cm:List Nat:=[])
  (hq:∀l r Q D,AG r os v.a τ (fun τ a=>match zB τ.s Z with|true=>DS P T l n os r (Bc c).toList cm π [] a (fun τ' env f=>AG r os f (B3 env τ') (fun τ _=>Co fx lf τ (Q .normal))) τ|false=>False)=v.q ⟨l,r,Q,D⟩:=by intro l r Q P;kernel_rfl)
  (X:Xc P π Z c=true:=by kernel_rfl):LW P n C c τ Q:=by
 cases c with
 |region id ops dr=>
  cases dr with
  |false=>cases X
  |true=>
   obtain⟨t,rfl⟩:∃l:List Oper,ops=l.toArray:=⟨ops.toList,by simp⟩
   simp only[Xc,Yc]at X
   obtain⟨⟨⟨k1,k2⟩,k3⟩,k4⟩:=X
   intro γ σ hg hG a w hR
   have hR':R C.l n C.B σ a {w with drawn:=w.drawn+1 }:=by
    obtain⟨s,H⟩:=σ
    obtain⟨m,S,hO,hn,hdf,hS,hex⟩:=hR.un
    obtain⟨k,u⟩:=hO.drew (w':={w with drawn:=w.drawn+1 }) rfl rfl rfl rfl
    exact R.keep k hn hdf hS hex u
   have k:=v.ok _ (hn (C.r γ) ⟨rfl,rfl,rfl,rfl⟩) y hv hL
   rw[←hq]at k
   generalize v.a=va at k
   have ok:=co.ok
   rw[←co.O,←co.F]at k
   obtain⟨τ₁,a₁,σ₁,u,I,hw1⟩:=Bh (n:=n) ok va k hG
   split at u
   case h_2=>exact u.elim
   rename_i hz
   have hR1:=hw1 _ _ hR'
   obtain⟨s1,Y⟩:=σ₁
   obtain⟨m1,E,hO1,hn1,hd1,q,J⟩:=hR1.un
   let A:Base:=⟨Y,m1,E,{w with drawn:=w.drawn+1 }⟩
   have hRB:R C.l n A ⟨s1,Y⟩ a {w with drawn:=w.drawn+1 }:=⟨m1,E,hO1,hn1,hd1,q,Ext.refl _ _ _ _ _⟩
   have G:∀d f w',R C.l n A d f w'→R C.l n C.B d f w':=fun d f w' h=>by
    obtain⟨m2,S2,U,V,g3,g4,g5⟩:=h
    exact⟨m2,S2,U,V,g3,g4,J.trans g5⟩
   let S:World→Prop:=fun w'=>∀b,E b→w'.heap[b]?=({w with drawn:=w.drawn+1 }:World).heap[b]?
   have hS1:∀d f w',R C.l n A d f w'→S w':=fun d f w' h b i=>by
    obtain⟨m2,S2,U,V,g3,g4,g5⟩:=h
    exact g5.blk b i
   have hGd:∀(j:Nat) (o:Oper),t.toArray[j]?=some o→Qh o=true:=fun j o ho=>Yo.1 k1 o (Yi (by simpa using ho))
   have N:∀(j:Nat) (o:Oper) cs b,t.toArray[j]?=some o→o.op≠.select cs b:=fun j o cs b ho he=>by
    have:=hGd j o ho
    unfold Qh at this
    rw[he]at this
    cases this
   let Q2:Exit→Act→World→Prop:=fun e f w'=>∃d,Is n C (match e with|.normal=>Q .normal|_=>fun _=>False) d∧R C.l n C.B d f w'
   have hpl:Cq P t Q2 S π a {w with drawn:=w.drawn+1 }:=by
    refine bV (ok.ren γ) hT (B:=A) (fun a τ σ K hc hG=>Bh (n:=n) (C:={C with B:=A }) ⟨ok.own,ok.out,ok.inj,ok.no,ok.G⟩ a hc hG) hS1 (fun τ' env' f d act' w' k1 k2 k3=>?_) π [] a₁ τ₁ ⟨s1,Y⟩ a _ u I hRB
    obtain⟨σ₂,U,V⟩:=IQ (n:=n) k2
    obtain⟨τ₃,a₃,σ₃,f1,f2,f3⟩:=Bh (n:=n) ok f k1 U
    obtain⟨γ',τ₄,σ₄,j0,j1,j2,j3⟩:=Ez (n:=n) ok f1 hg f2
    exact⟨σ₄,⟨γ',τ₄,σ₄,j0,j1,j2,Wk.refl _⟩,j3 _ _ (f3 _ _ (V _ _ (G _ _ _ k3)))⟩
   have hF:∀z∈Z,∃b,pb (a.eval (.tmp z))=some b∧E b∧CK {w with drawn:=w.drawn+1 } b:=fun z hz'=>by
    obtain⟨x,ds,off,e⟩:=WU hz z hz'
    have hsz:s1 z=.iptr (x::ds) off:=by
     have:=(I.s z).1 AJ
     simp only at this
     rw[this,e];simp[ren]
    have hx:=q z
    rw[hsz]at hx
    show∃b,pb (a.tmps.getD z Go.undef)=some b∧_
    generalize a.tmps.getD z Go.undef=vv at hx
    cases hx with
    |iptr _ _ ad c i hc hr=>
     refine⟨(ad.add off).block,rfl,by rw[block_add];exact i,?_⟩
     rw[block_add]
     have W:=hc 0 x rfl
     simp only[World.cell?]at W
     have hbk:(ad.add 0).block=ad.block:=block_add _ _
     rw[hbk]at W
     split at W
     ·rename_i C0 e0 f0 hh;exact⟨C0,e0,f0,hh⟩
     ·cases W
   have hw:=dW (P:=P) (L:=t) (Q:=Q2) (S:=S) (β:=fun z=>(pb (a.eval (.tmp z))).getD 0) (F:=fun b=>E b∧CK {w with drawn:=w.drawn+1 } b) (w0:={w with drawn:=w.drawn+1 }) (fun b w' i hS=>hS b i.1) (fun b i=>i.2) N
    (fun c a w ⟨d,⟨_,_,_,_,M,_⟩,_⟩=>M) (fun⟨a,w,d,⟨_,_,_,_,M,_⟩,_⟩=>M) π (Z.map fun z=>(z,z)) [] (Array.replicate t.toArray.size false) a {w with drawn:=w.drawn+1 } (by simp) (fun j hj=>by simp[hj]) (fun x hx=>by cases hx)
    (fun m om hm hl=>by
     have:(Array.replicate t.toArray.size false).getD m false=false:=by
      simp only[Yp,Array.getElem?_replicate]
      split<;>rfl
     rw[this]at hl
     cases hl) (by simpa using k3)
    (fun p hp=>by
     obtain⟨z,O,rfl⟩:=YO.1 hp
     obtain⟨b,b1,b2⟩:=hF z O
     simp only[b1,Fk];exact b2)
    (fun p hp b i=>by
     obtain⟨z,O,rfl⟩:=YO.1 hp
     simp only at i
     simp only[i,Fk]) (fun b i=>rfl) hpl
   have hs:π.len=t.toArray.size:=by simpa using Ya k2
   rw[hs]at hw
   refine wp_mono (wp_region_held hm' (hw.1 k4)) fun e f w' ⟨d,k,u⟩=>⟨d,?_,u⟩
   cases e with
   |normal=>exact k
   |_=>obtain⟨_,_,_,_,M,_⟩:=k;exact M.elim
 |_=>cases X
@[reducible] def tw(a b:PT os β):PT os β:=⟨.br a.a b.a,fun E=>a.q E∧b.q E,a.m,fun E=>a.n E∧b.n E∧(∀y,a.m=some y→b.m=some y),fun E c y hm d=>⟨a.ok E c.1 y hm d,b.ok E c.2.1 y (c.2.2 y hm) d⟩⟩
@[reducible] def du(k:PT os β):PT os β:=⟨.br k.a k.a,fun E=>k.q E∧k.q E,k.m,k.n,fun E b y hm a=>⟨k.ok E b y hm a,k.ok E b y hm a⟩⟩
theorem O9{C:Cx}{r:Ren}(g:Gd C r):∀{a:List (Aa×Blk)},B1 os a=true→C9 C a→Fa r a
 |[],_,_=>trivial
 |(k,b)::t,d,h=>by
  simp only[B1,Yc]at d
  obtain⟨⟨⟨f,j⟩,l⟩,e⟩:=d
  unfold Fa
  unfold C9 at h
  rcases DH f with c|⟨c,i⟩
  ·rw[c]at h⊢;exact O9 g e h
  ·rw[c]at h⊢;exact⟨⟨c,by rw[g.no,g.κ];exact h.1⟩,O9 g e h.2⟩
@[reducible] def ch{γ:Type}[Inhabited γ](P:Program)(f:FuncId)(xs:List AV)(ks:List Aa)(g:List (Aa×Blk))(M:Option γ)(e:γ→AV)(a:γ→List (Aa×Blk))(k:γ→PT os β)(c:∀z,B1 os (a z)=true:=by intro z;kernel_rfl):PT os β:=
 ⟨.hard (e (M.getD default)) ks (a (M.getD default)) [] (k (M.getD default)).a,fun E=>EL P E.l E.r f xs g (e (M.getD default)) (a (M.getD default)) []∧Fa E.r (a (M.getD default))∧(k (M.getD default)).q E,M.bind fun y=>(k y).m,
 fun E=>(∀y,M=some y→EL P E.C.l E.E.r f xs g (e y) (a y) [])∧(∀y,C9 E.C (a y))∧∀y,(k y).n E,fun E b y hm j=>by
  obtain⟨x,d,h⟩:=bind_some hm
  have i:M.getD default=x:=by rw[d];rfl
  rw[i]
  exact⟨by rw[E.hl];exact b.1 x d,O9 E.g (c x) (b.2.1 x),(k x).ok E (b.2.2 x) y h j⟩⟩
end
end Go.Eng
namespace Go.Eng
set_option linter.all false
open Go Go.RowKit
section
variable {os:Nat} {β α:Type} [Rw α]
abbrev PN(xs:List α)(off cn:Nat)(z:List AV):List AV:=(Ad Rw.e xs).take (off*Rw.s α)++(List.replicate cn z).flatten++(Ad Rw.e xs).drop ((off+cn)*Rw.s α)
@[reducible] def cr(xs:List α)(off cn:Nat)(z:List AV)(k:PT os β):PT os β:=⟨.cs (PN xs off cn z) k.a,fun E=>PO (Ad Rw.e xs) off cn (Rw.s α) z (PN xs off cn z)∧k.q E,
 if off+cn≤xs.length then k.m else none,k.n,fun E c y hm b=>by
  obtain⟨a,hm⟩:=Bt hm
  exact⟨dQ Rw.len a,k.ok E c y hm b⟩⟩
@[reducible] def mE(q:Nat)(xs:List α)(off cn:Nat)(z:List AV)(k:PT os β)(d:Nat.ble (q+1) os=true:=by kernel_rfl):PT os β:=⟨.trim (0,q) (Ad Rw.e (xs.take off)) k.a,fun E=>(∃m,(PN xs off cn z).take m=Ad Rw.e (xs.take off))∧G5 E.r (0,q)∧k.q E,
 if off≤xs.length then k.m else none,k.n,fun E c y hm b=>by
  obtain⟨a,hm⟩:=Bt hm
  exact⟨e9 Rw.len a,⟨rfl,by rw[E.g.no,E.g.κ];exact E.co.W q (Yd d)⟩,k.ok E c y hm b⟩⟩
end
theorem mA{P:AV→List Blk→Prop}{v a:AV}{B:List Blk}(e:v=a)(h:P a B):P v B:=e▸h
theorem Ig{A B:Prop}(b:A→B)(a:A):B:=b a
def gF(a fr:List Nat)(δ:Nat→Nat):Aa→Nat
 |(0,i)=>match fr.any (Nat.beq i)with|true=>δ i|false=>Ei a (0,i)
 |(_+1,_)=>0
def rF(l:Nat)(ks:List Aa)(a fr:List Nat)(δ:Nat→Nat)(H:Hp):Ren:=⟨Ch l ks,gF a fr δ,fun _=>.top,H,fun k=>k∈ks⟩
def Fe(κ:Aa→Aa):List (Nat×Nat)→Prop
 |[]=>True
 |(a,b)::t=>(κ (0,a)).1≤(κ (0,b)).1∧Fe κ t
structure KG (P:Program) (f:FuncId) (os:Nat) (fr:List Nat) (lv:List (Nat×Nat)) (ys:List AV) (bi:List Blk) {γ:Type} (M:Option γ) (e:γ→AV) (bs:γ→List Blk):Prop where
 k:∀l H (ks:List Aa) (gs:List Nat),ks.length=os→FR l ks→ks.Nodup→Gg H (Bp l ks gs (fun _=>.top) H) (BW 0 bi) 0 ks→Fe (Ch l ks) lv→∀y,M=some y→
  Zbb P f l (Ae (Bp l ks gs (fun _=>.top) H) ys) H (fun z H'=>∃δ,z=ren (rF l ks gs fr δ H) (e y)∧H'=B5 H ks (BH (rF l ks gs fr δ H) 0 (bs y)))
theorem Qe{P:Program}{T:Nat→Option TI}{n:Nat}{f:FuncId}{fn:Func}{ys:List AV}{bi:List Blk}{γ:Type}{M:Option γ}{e:γ→AV}{bs:γ→List Blk}(R:P.funcs[f]?=some fn)(W:fn.ntmps=n)(O:AL P T)(w:List ResultVar)(os:Nat)(fr fx:List Nat)(lv:List (Nat×Nat))
  (h:∀C:Cx,COx C os fx→Fe C.κ lv→∀y,M=some y→∀a:AV→List Blk→Prop,HL (fun y=>a (e y) (bs y)) y→LW P n C (pa [] (AB fn)) (Ab (B4 0 ys) (BW 0 bi)) (FQ T w os a))
  (o:(F3 os).all (fun i=>fr.any (Nat.beq i)||fx.any (Nat.beq i))=true:=by kernel_rfl)
  (he:∀y,F8 os (e y)=true:=by intro y;kernel_rfl) (x:∀y,Dk os (bs y):=by intro y;repeat(first|exact trivial|refine⟨.inl (CN _ _),rfl,?_⟩|refine⟨.inl FA,rfl,?_⟩|refine⟨.inr (by kernel_rfl),rfl,?_⟩)) (hl:∀y,(bs y).length=os:=by intro y;rfl) (d:EV os (BW 0 bi)=true:=by kernel_rfl)
  (Q:fn.body=some (AB fn):=by kernel_rfl) (c:(fn.name== "runtime.NumGoroutine")=false:=by kernel_rfl) (X:fn.results.toList=w:=by kernel_rfl) (hx:Nat.ble ys.length n=true:=by kernel_rfl):KG P f os fr lv ys bi M e bs:=
 ⟨fun l H ks m p g t K s y hy=>by
  subst p
  refine R2 w (AB fn) ks m fx (fun _=>.top) ys (BW 0 bi) (fun z b=>z=e y∧b=bs y) R Q c W X (by rw[Bx];exact Yd hx) O (KZ g) t (Oe d) (OS d) (fun i k U=>by have:=O8 K i k U;rw[YL]at this;exact this) rfl (fun C I N J V L hθ B u=>?_) fun z b ⟨D,E⟩=>?_
  ·refine h C ⟨I,N,J,fun q A=>?_⟩ (by rw[B];exact s) y hy _ ⟨rfl,rfl⟩
   rw[u,B]
   show(match AS ks q with|some k=>k|none=>(0,0))∈ks
   rw[Bk,Yb (by omega)]
   exact G7 _
  ·subst D;subst E
   refine⟨hl y,(x y).live,fun r F Y Z h4 G=>⟨fun i=>r.γ (0,i),?_⟩⟩
   have hs:HF ks.length r (rF l ks m fr (fun i=>r.γ (0,i)) H):=fun q A=>by
    refine⟨by rw[F];rfl,?_⟩
    show r.γ (0,q)=match fr.any (Nat.beq q)with|true=>r.γ (0,q)|false=>Ei m (0,q)
    cases v:fr.any (Nat.beq q)with
    |true=>rfl
    |false=>
     have:=Yo.1 o q (KN A)
     rw[v,Iw]at this
     obtain⟨j,S,e⟩:=YX.1 this
     have:=Ya e
     subst this
     exact G q S
   exact⟨O2 hs _ (he y),by rw[Dk.ren hs _ _ (by rw[hl];omega) (x y)]⟩⟩
def gB(r:Ren)(fr:List Nat)(δ:Nat→Nat):Nat→List (Aa×Blk)→Aa→Nat
 |_,[],k=>r.γ k
 |i,(q,_)::t,k=>match fr.any (Nat.beq i),AY k q with|true,true=>δ i|_,_=>gB r fr δ (i+1) t k
def Eh(fr:List Nat):Nat→List (Aa×Blk)→List Aa
 |_,[]=>[]
 |i,(q,_)::t=>match fr.any (Nat.beq i)with|true=>q::Eh fr (i+1) t|false=>Eh fr (i+1) t
theorem Pn{r:Ren}{fr:List Nat}{δ:Nat→Nat}{k:Aa}:∀(a:List (Aa×Blk)) (i:Nat),k∉Eh fr i a→gB r fr δ i a k=r.γ k
 |[],i,_=>rfl
 |(q,b)::t,i,h=>by
  simp only[Eh]at h
  simp only[gB]
  cases c:fr.any (Nat.beq i)with
  |false=>rw[c]at h;exact Pn t (i+1) h
  |true=>
   rw[c]at h
   simp only[YJ,not_or]at h
   have:AY k q=false:=by
    cases d:AY k q with
    |false=>rfl
    |true=>exact absurd (Bq.1 d) h.1
   rw[this]
   exact Pn t (i+1) h.2
def rB(r:Ren)(fr:List Nat)(δ:Nat→Nat)(a:List (Aa×Blk)):Ren:=⟨r.κ,gB r fr δ 0 a,r.θ,r.H0,r.no⟩
section
variable {P:Program} {f:FuncId} {os os':Nat} {fr fx:List Nat} {lv:List (Nat×Nat)} {ys:List AV} {bi:List Blk} {γ:Type} {M:Option γ} {e:γ→AV} {bs:γ→List Blk} {C:Cx} {r:Ren} {xs:List AV} {x:AV} {y:γ}
theorem dA(K:KG P f os fr lv ys bi M e bs)(hy:M=some y)(co:COx C os' fx)(g:Gd C r)(a w d:List (Aa×Blk))(s:Fe (Ch (C.l+1) ((a.map (·.1)).map r.κ)) lv)
  (q:∀H,BE (rC C r a (fun _=>.top) H) r 0 bi a) (m:∀H δ,BE (rF (C.l+1) ((a.map (·.1)).map r.κ) (CX r a) fr δ H) (rB r fr δ a) 0 (bs y) d) (n:(bs y).all Blk.live=true:=by kernel_rfl) (hx:∀H,Ae (rC C r a (fun _=>.top) H) ys=Ae r xs∨Ae (rC C r a (fun _=>.top) H) ys=(Ae r xs).map nrm:=by intro H;exact .inl (by kernel_rfl))
  (v:∀H δ,ren (rF (C.l+1) ((a.map (·.1)).map r.κ) (CX r a) fr δ H) (e y)=ren (rB r fr δ a) x:=by intro H δ;kernel_rfl)
  (l:((a.map (·.1)).all (AZ os')&&D1 (a.map (·.1))&&Nat.beq a.length os)=true:=by kernel_rfl) (he:a.map (·.1)=d.map (·.1):=by rfl):EL P C.l r f xs (a++w) x d (Eh fr 0 a):=by
 have t:∀b∈bs y,b.live=true:=fun b E=>Yo.1 n b E
 have o:∀p∈a,p∈a++w:=fun p u=>Gj _ u
 intro c F I
 simp only[Yc]at l
 have:=K.k (C.l+1) c ((a.map (fun p:Aa×Blk=>p.1)).map r.κ) (CX r a) (by rw[YF,YF];exact Ya l.2) (HB co g _ l.1.1) (IR (Lb co g) _ l.1.2 l.1.1)
  (I5 bi a 0 bi (fun j=>by have:=I0 bi 0 j;rwa [YL]at this⊢) (q c) fun p u=>F p (o p u)) s y hy
 have G:∀{i:AV→Hp→Prop},Zbb P f (C.l+1) (Ae (rC C r a (fun _=>.top) c) ys) c i→Zbb P f (C.l+1) (Ae r xs) c i:=fun h=>by
  rcases hx c with e|e
  ·rw[←e];exact h
  ·exact Zbb.nrm (by rw[←e];exact h)
 refine(G this).mono fun z A ⟨δ,B,D⟩=>⟨gB r fr δ 0 a,fun k l=>Pn a 0 l,B.trans (v c δ),D.trans ?_⟩
 exact OI (r:=rB r fr δ a) (bs y) a d 0 c (m c δ) t he
end
section
variable {P:Program} {T:Nat→Option TI} {n:Nat} {C:Cx} {τ:St} {Q:Exit→St→Prop} {os k:Nat} {c:Code} {β:Type} {L:β→Prop} {y:β} {fx:List Nat}
theorem jp{r:Ren}(co:COx C os fx)(g:Gd C r)(a b:Nat):(r.κ (1,a)).1≤(r.κ (1,b)).1:=by rw[g.κ,co.ok.own,co.ok.own];exact Ye _
theorem UY{r:Ren}{a b:Nat}(g:Gd C r)(h:(C.κ (0,a)).1≤(C.κ (0,b)).1):(r.κ (0,a)).1≤(r.κ (0,b)).1:=by rw[g.κ];exact h
theorem jO{r:Ren}{a b:Nat}(g:Gd C r)(h:Fe C.κ [(a,b)]):(r.κ (0,a)).1≤(r.κ (0,b)).1∧True:=⟨UY g h.1,trivial⟩
theorem EF{r:Ren}{a b:Nat}{t:List (Nat×Nat)}(g:Gd C r)(h:Fe C.κ ((a,b)::t)){c off m:Nat}:Ef r (0,b) [.ref (0,a) c off m]:=by
 unfold Ef
 simp only[Ae,ren,Fg,List.all_nil,Nf,AV.low]
 have:=UY g h.1
 simpa using this
@[reducible] def E2(q:Nat)(vs:List AV)(k:PT os β)(c:Nat.ble (q+1) os=true:=by kernel_rfl):PT os β:=
 ⟨k.a,fun E=>G5 E.r (0,q)∧Ef E.r (0,q) vs∧k.q E,k.m,fun E=>Ef E.E.r (0,q) vs∧k.n E,fun E a y hm b=>⟨⟨rfl,by rw[E.g.no,E.g.κ];exact E.co.W q (Yd c)⟩,a.1,k.ok E a.2 y hm b⟩⟩
theorem MD{γ:Type}{M:Option γ}{kk:γ→Option β}{ss:List (Nat×AV)}{hs:List (Aa×Blk)}{f:FuncId}{os':Nat}{fr:List Nat}{lv:List (Nat×Nat)}{ys:List AV}{bi:List Blk}{e0:γ→AV}{bs:γ→List Blk}(co:COx C os fx)(hm:M.bind kk=some y)(K:KG P f os' fr lv ys bi M e0 bs)
  (a d:List (Aa×Blk)) (e:γ→AV) (b:γ→List (Aa×Blk)) (fl:List Aa)
  (h:∀z,kk z=some y→LO P n C c (k+1) (Ab (Eb (Dj c k) (e z) (Cn (Eh fr 0 a) ss)) (b z++BN ((b z).map (·.1)) (Eh fr 0 a) fl hs)) Q)
  (o:∀r,Gd C r→Fe (Ch (C.l+1) ((a.map (·.1)).map r.κ)) lv:=by
   intro r g
   first
   |exact⟨jp ‹_› g _ _,trivial⟩
   |exact jO g (by assumption)
   |exact trivial)
  (xs:List AV:=[]++(D4 c k).map (ev (As ss))++[])
  (t:∀z,C9 C (b z):=by intro z;repeat(first|exact trivial|refine⟨COx.W ‹_› _ (by decide),?_⟩))
  (l:F5 (Ak hs) fl:=by repeat(first|exact trivial|refine⟨CN _ _,?_⟩))
  (j:∀r H,BE (rC C r a (fun _=>.top) H) r 0 bi a:=by
   intro r H
   repeat(first|exact trivial|refine⟨fun _=>⟨rfl,DB (CN _ _) (by kernel_rfl)⟩,by kernel_rfl,?_⟩|refine⟨fun _=>⟨rfl,DB FA (by kernel_rfl)⟩,by kernel_rfl,?_⟩|refine⟨fun _=>⟨rfl,by kernel_rfl⟩,by kernel_rfl,?_⟩))
  (i:∀z r H δ,BE (rF (C.l+1) ((a.map (·.1)).map r.κ) (CX r a) fr δ H) (rB r fr δ a) 0 (bs z) (b z):=by
   intro z r H δ
   repeat(first|exact trivial|refine⟨fun _=>⟨rfl,DB (CN _ _) (by kernel_rfl)⟩,by kernel_rfl,?_⟩|refine⟨fun _=>⟨rfl,DB FA (by kernel_rfl)⟩,by kernel_rfl,?_⟩|refine⟨fun _=>⟨rfl,by kernel_rfl⟩,by kernel_rfl,?_⟩))
  (hx:∀r H,Ae (rC C r a (fun _=>.top) H) ys=Ae r xs∨Ae (rC C r a (fun _=>.top) H) ys=(Ae r xs).map nrm:=by intro r H;exact .inl (by kernel_rfl)) (u:[]++(D4 c k).map (ev (As ss))++[]=xs:=by kernel_rfl) (v:∀z r H δ,ren (rF (C.l+1) ((a.map (·.1)).map r.κ) (CX r a) fr δ H) (e0 z)=ren (rB r fr δ a) (e z):=by intro z r H δ;kernel_rfl)
  (s:D2 c k=some (Dj c k,callF c k,D4 c k):=by kernel_rfl) (F:ev (As ss) (callF c k)=.fn (.func f) [] []:=by kernel_rfl)
  (m:(((a++d).map (·.1)).map fun k=>(k,Ak hs k))=a++d:=by kernel_rfl) (p:∀z,(bs z).all Blk.live=true:=by intro z;kernel_rfl) (he:∀z,a.map (·.1)=(b z).map (·.1):=by intro z;rfl)
  (G:((a.map (·.1)).all (AZ os)&&D1 (a.map (·.1))&&Nat.beq a.length os')=true:=by kernel_rfl)
  (q:∀z,(B1 os (b z)&&HU (Eh fr 0 a) (b z)&&HD (Eh fr 0 a) fx&&EG hs&&HJ n (Dj c k)&&((a++d).map (·.1)).all (AZ os))=true:=by intro z;kernel_rfl):LO P n C c k (Ab ss hs) Q:=by
 obtain⟨z,D,E⟩:=bind_some hm
 exact TB co.ok co.O co.F f [] [] xs s F u _ (a++d) m (e z) (b z) (Eh fr 0 a) fl (q z) (t z) l (fun r w x A B=>dA K D co ⟨w,x,A,B⟩ a d (b z) (o r ⟨w,x,A,B⟩) (fun H=>j r H) (fun H δ=>i z r H δ) (p z) (fun H=>hx r H) (fun H δ=>v z r H δ) G (he z)) (h z E)
def Xw(m:Nat):Code→Bool
 |.region _ ops true=>Nat.beq ops.toList.length (m+1)&&LS ops.toList&&(EJ m ops.toList).all (fun o=>BM o||Bb o)&&GY ops.toList 0 ops.toList&&(F3 m).all (fun i=>I9 ops.toList i ops.toList.length m)
 |_=>false
theorem lG(co:COx C os fx)(hT:AL P T)(A:P.follows .mixedOrders=true)(m:Nat)(v:PT os β)(lf:Lf)(hv:v.m=some y)(Z:HL L y)(hn:∀r (g:Gd C r),v.n ⟨⟨C.l,r,fun _ τ'=>LO P n C c m τ' Q,fun _ _=>False⟩,L,C,_,co,g,rfl⟩)
  (hq:∀l r Q h,AG r os v.a τ (fun τ a=>D8 P T l n r ((Bc c).toList.map (·.dst)) (EJ m (Bc c).toList) [] a (fun τ' env f=>AG r os f (B3 env τ') (fun τ _=>Co fx lf τ (Q .normal))) τ)=v.q ⟨l,r,Q,h⟩:=by intro l r Q P;kernel_rfl)
  (t:Xw m c=true:=by kernel_rfl):LW P n C c τ Q:=by
 cases c with
 |region id ops N=>
  cases N with
  |false=>cases t
  |true=>
   obtain⟨Lf,rfl⟩:∃l:List Oper,ops=l.toArray:=⟨ops.toList,by simp⟩
   simp only[Xw,Yc,KI]at t
   obtain⟨⟨⟨⟨G,H⟩,E⟩,I⟩,J⟩:=t
   have G:=Ya G
   have s:∃o,Lf.drop m=[o]:=List.length_eq_one_iff.1 (by rw[Es];omega)
   obtain⟨o,s⟩:=s
   have b:Lf=Lf.take m++[o]:=by rw[←s,Ra]
   have z:(Lf.take m).length=m:=by rw[Y8];omega
   intro γ σ hg Y a w hR
   have q:=v.ok _ (hn (C.r γ) ⟨rfl,rfl,rfl,rfl⟩) y hv Z
   rw[←hq]at q
   generalize v.a=va at q
   have ok:=co.ok
   rw[←co.O,←co.F]at q
   obtain⟨τ₁,M,K,F,u,D⟩:=Bh (n:=n) ok va q Y
   simp only[Bc,KI,List.toList_toArray]at F H E I J
   have k:=dm (P:=P) (n:=n) (B:=C.B) (id:=id) (L:=Lf.take m) (o:=o) (σ:=K) (a:=a) (w:=w) (QQ:=fun e f w'=>∃p,Is n C (Q e) p∧R C.l n C.B p f w')
    (X:=fun p=>∃τ' d f,AG (C.r γ) C.outs f (B3 d τ') (fun τ _=>Co C.fx lf τ (fun τ'=>LO P n C (.region id Lf.toArray true) m τ' Q))∧RG (C.r γ) C.l C.outs d τ' p) A (Sd (by rw[←b];exact H)) E (by rw[←b];exact I)
    (fun i hi=>by rw[←b,z];exact N0 _ _ (Yo.1 J i (KN (by omega)))) (by rw[←b];exact Hr (ok.ren γ) hT _ [] M τ₁ K E F u) (fun p j w' x ⟨τ',d,f,f1,f2⟩=>?_) (D _ _ hR)
   ·rw[←b]at k;exact k
   ·obtain⟨σ₂,V,W⟩:=IQ (n:=n) f2
    obtain⟨τ₃,a₃,σ₃,O,S,U⟩:=Bh (n:=n) ok f f1 V
    obtain⟨γ',τ₄,σ₄,j0,j1,j2,j3⟩:=Ez (n:=n) ok O hg S
    have:=j1 γ' σ₄ j w' j0 j2 (j3 _ _ (U _ _ (W _ _ x)))
    simp only[Bc,List.toList_toArray,s]at this
    rw[←b]
    exact this
 |_=>cases t
end
section
variable {P:Program} {l l':Nat} {H:Hp} {m:Mu} {S:Nat→Prop} {w:World}
inductive Vw (H:Hp) (l:Nat):AV→D→Prop
 |d (x:D):Vw H l (.d x) x
 |e0:Vw H l .e0 (.list [])
 |ref (k:Aa) (g n:Nat) (es:List (List D)) (hk:k.1≤l) (hg:(H k).g=g) (hn:es.length=n) (hl:(H k).live=true) (hz:∀e∈es,e.length=(H k).sz) (hp:(H k).sz≠0) (hc:(H k).cells.length=n*(H k).sz)
   (hr:∀(i:Nat) (x:AV) (d:D),(H k).cells[i]?=some x→es.flatten[i]?=some d→Vw H l x d):Vw H l (.ref k g 0 n) (.list es)
 |mp (k:Aa) (g:Nat) (a:Bool) (es:List (List D)) (hk:k.1≤l) (hg:(H k).g=g) (hl:(H k).live=true) (he:(H k).e=.m a es):Vw H l (.mp k g) (.map a es)
inductive Vx (H:Hp) (l:Nat):AV→AV→Prop
 |d (x:AV) (d:D) (h:Vw H l x d):Vx H l x (.d d)
 |ptr (k:Aa) (g:Nat) (ds:List D) (hk:k.1≤l) (hg:(H k).g=g) (hl:(H k).live=true) (hne:ds≠[]) (hc:(H k).cells.length=ds.length) (hr:∀(i:Nat) (x:AV) (d:D),(H k).cells[i]?=some x→ds[i]?=some d→Vw H l x d):Vx H l (.ptr k g 0) (.iptr ds 0)
 |fn (f:Fn) (xs ys:List AV) (hn:xs.length=ys.length) (h:∀(i:Nat) (x y:AV),xs[i]?=some x→ys[i]?=some y→Vx H l x y):Vx H l (.fn f [] xs) (.fn f [] ys)
def Io(H:Hp)(l:Nat):List AV→List AV→Prop
 |[],[]=>True
 |x::xs,y::ys=>Vx H l x y∧Io H l xs ys
 |_,_=>False
theorem Io.at{H:Hp}{l:Nat}:∀{xs ys:List AV},Io H l xs ys→xs.length=ys.length∧∀(i:Nat) (x y:AV),xs[i]?=some x→ys[i]?=some y→Vx H l x y
 |[],[],_=>⟨rfl,fun i x y h=>by simp at h⟩
 |x::xs,y::ys,⟨f,e⟩=>⟨by simp[(Io.at e).1],fun i a b c d=>by
  cases i with
  |zero=>simp at c d;subst c;subst d;exact f
  |succ i=>simp at c d;exact(Io.at e).2 i a b c d⟩
 |[],_::_,h=>h.elim
 |_::_,[],h=>h.elim
end
end Go.Eng
