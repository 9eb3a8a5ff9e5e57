import Derived.Test.YtopncadjpnkjhaaGreatDoorZj10
import Derived.OrdersHeld
import Derived.Test.YtopncadjpnkjhaaGreatDoorZj09
import Derived.Test.YtopncadjpnkjhaaGreatDoorZj00
namespace Go.Eng
set_option linter.all false
open Go Go.RowKit
inductive Pl where
 |nil
 |fst (i:Nat) (r:Pl)
 |two (i j:Nat) (a b:Pl)
 |opt (hs:List Nat) (i:Nat) (r s:Pl)
def Pl.len:Pl→Nat
 |.nil=>0
 |.fst _ r=>r.len+1
 |.two _ _ a _=>a.len+1
 |.opt _ _ r _=>r.len+1
def Re:Pl→Bool
 |.opt _ _ _ _=>true
 |_=>false
def Ol:Pl→List Nat
 |.opt _ i _ s=>i::Ol s
 |_=>[]
def Kw:Pl→Bool
 |.opt hs i r s=>hs.all fun k=>(Ol (.opt hs i r s)).any (Nat.beq k)
 |_=>true
def B0(P:Program)(ops:Array Oper)(Q:Exit→Act→World→Prop)(o:Oper)(a:Act)(w:World)(N:Act→World→Prop):Prop:=if Region.wanted o (yielded ops a.tmps)=true then o.wp P a w N Q else N (a.put o.dst Go.undef) w
def Dq(P:Program)(L:List Oper)(Q:Exit→Act→World→Prop)(S:World→Prop):Pl→Act→World→Prop
 |.nil,a,w=>Q .normal a w
 |.fst i r,a,w=>match A6 L i with
  |some o=>B0 P L.toArray Q o a w (fun b w'=>S w'∧Dq P L Q S r b w')
  |none=>False
 |.two i j x y,a,w=>match A6 L i,A6 L j with
  |some o,some c=>B0 P L.toArray Q o a w (fun b w'=>S w'∧Dq P L Q S x b w')∧B0 P L.toArray Q c a w (fun b w'=>S w'∧Dq P L Q S y b w')
  |_,_=>False
 |.opt _ i x y,a,w=>match A6 L i with
  |some o=>B0 P L.toArray Q o a w (fun b w'=>S w'∧Dq P L Q S x b w')∧(Re y=true→Dq P L Q S y a w)
  |none=>False
def MU(listed hs:List Nat):Nat→List Oper→Bool
 |_,[]=>true
 |k,ok::r=>(listed.any (Nat.beq k)||hs.any (Nat.beq k)||ok.after.toList.any (fun e=>Region.binds .any e&&!listed.any (Nat.beq e.on)))&&MU listed hs (k+1) r
theorem V3{listed hs:List Nat}:∀{r:List Oper} {b k:Nat} {ok:Oper},MU listed hs b r=true→r[k]?=some ok→
  (b+k)∈listed∨b+k∈hs∨∃e∈ok.after,Region.binds .any e=true∧e.on∉listed
 |[],b,k,ok,_,h=>by simp at h
 |q::r,b,k,ok,d,h=>by
  unfold MU at d
  rw[Yb]at d
  cases k with
  |zero=>
   simp only[Y5,Yg]at h
   subst h
   have a:=d.1
   simp only[Yt]at a
   rcases a with(a|a)|a
   ·exact .inl (E2.1 a)
   ·exact .inr (.inl (E2.1 a))
   ·obtain⟨e,he,c⟩:=YT.1 a
    rw[Yb]at c
    exact .inr (.inr ⟨e,by simpa using he,c.1,fun hm=>by have:=E2.2 hm;rw[this]at c;cases c.2⟩)
  |succ k=>
   have:=V3 (k:=k) d.2 (by simpa using h)
   grind
def Oy(listed:List Nat)(i j:Nat):Nat→List Oper→Bool
 |_,[]=>true
 |k,ok::r=>(listed.any (Nat.beq k)||Nat.beq k i||Nat.beq k j||ok.after.toList.any (fun e=>Region.binds .any e&&!listed.any (Nat.beq e.on)))&&Oy listed i j (k+1) r
theorem iT{listed:List Nat}{i j:Nat}:∀{r:List Oper} {b k:Nat} {ok:Oper},Oy listed i j b r=true→r[k]?=some ok→
  (b+k)∈listed∨b+k=i∨b+k=j∨∃e∈ok.after,Region.binds .any e=true∧e.on∉listed
 |[],b,k,ok,_,h=>by simp at h
 |q::r,b,k,ok,d,h=>by
  unfold Oy at d
  rw[Yb]at d
  cases k with
  |zero=>
   simp only[Y5,Yg]at h
   subst h
   have a:=d.1
   simp only[Yt]at a
   rcases a with((a|a)|a)|a
   ·exact .inl (E2.1 a)
   ·exact .inr (.inl (Ya a))
   ·exact .inr (.inr (.inl (Ya a)))
   ·obtain⟨e,he,c⟩:=YT.1 a
    rw[Yb]at c
    exact .inr (.inr (.inr ⟨e,by simpa using he,c.1,fun hm=>by have:=E2.2 hm;rw[this]at c;cases c.2⟩))
  |succ k=>
   have:=iT (k:=k) d.2 (by simpa using h)
   grind
def M8(env:List (Nat×Nat))(o:Oper):Bool:=match o.op with
 |.load _ x=>(match II x with|some y=>(HC y env).isSome|none=>false)
 |_=>false
def Eh(o:Oper):Bool:=match o.guard with
 |none=>true
 |some _=>false
def K8(P:Program)(o:Oper):Bool:=Eh o||(HA P o).isNone
def Fi(P:Program)(L:List Oper):List (Nat×Nat)→List Nat→Pl→Bool
 |_,listed,.nil=>(List.range L.length).all fun j=>listed.any (Nat.beq j)
 |env,listed,.fst i b=>(match A6 L i with
  |some a=>!(listed.any (Nat.beq i))&&a.after.toList.all (fun e=>!Region.binds .any e||listed.any (Nat.beq e.on))&&(match Eh a&&(CU P a||M8 env a)with|true=>Nh.chkV P L listed i a 0 L|false=>(match L.all Eh with|true=>LI P L listed i a 0 L|false=>MU listed [i] 0 L))&&K8 P a&&Fi P L (CF P env a) (i::listed) b&&Kw b
  |none=>false)
 |env,listed,.two i j x y=>(match A6 L i,A6 L j with
  |some a,some c=>a.after.toList.all (fun e=>!Region.binds .any e||listed.any (Nat.beq e.on))&&!(listed.any (Nat.beq i))&&!(listed.any (Nat.beq j))&&Oy listed i j 0 L&&(K8 P a&&K8 P c)&&Nat.beq x.len y.len&&Fi P L (CF P env a) (i::listed) x&&Fi P L (CF P env c) (j::listed) y&&Kw x&&Kw y
  |_,_=>false)
 |env,listed,.opt hs i x y=>(match A6 L i with
  |some a=>a.after.toList.all (fun e=>!Region.binds .any e||listed.any (Nat.beq e.on))&&!(listed.any (Nat.beq i))&&MU listed hs 0 L&&K8 P a&&Fi P L (CF P env a) (i::listed) x&&Kw x&&(!Re y||(Nat.beq y.len (x.len+1)&&Fi P L env listed y))
  |none=>false)
def IN(o:Oper)(a b:Act):Prop:=∃u,∀x,b.eval x=(a.put o.dst u).eval x
theorem jw{P:Program}{o:Oper}{a:Act}{w:World}{N:Act→World→Prop}{Q:Exit→Act→World→Prop}(h:o.wp P a w N Q):o.wp P a w (fun g w'=>N g w'∧IN o a g∧∀v b,(execOp a.eval o).run P w=.ok (.value v) b→g=a.put o.dst v) Q:=by
 unfold Oper.wp at*
 cases j:(execOp a.eval o).run P w with
 |ok n w'=>
  rw[j]at h
  cases n<;>simp only[Oper.upon]at h⊢
  case value u=>exact⟨h,⟨u,fun _=>rfl⟩,fun v b e=>by cases e;rfl⟩
  case skip=>exact⟨h,⟨_,fun _=>rfl⟩,fun v b e=>by cases e⟩
  case defer d=>exact⟨h,⟨Go.undef,fun x=>by cases o.dst<;>rfl⟩,fun v b e=>by cases e⟩
  case enter f args=>
   refine Calls.mono h fun e i he=>?_
   cases e with
   |returned u=>exact⟨he,⟨u,fun _=>rfl⟩,fun v b e=>by cases e⟩
   |panicked c=>exact he
   |outgrown=>exact he
  case row row args=>exact Rows.mono h fun u i he=>⟨he,⟨u,fun _=>rfl⟩,fun v b e=>by cases e⟩
 |halt x w'=>
  rw[j]at h
  cases x<;>simp only[Oper.upon]at h⊢
  grind
theorem B0.mono{P:Program}{ops:Array Oper}{Q:Exit→Act→World→Prop}{o:Oper}{a:Act}{w:World}{N b:Act→World→Prop}(h:∀d w',N d w'→b d w')(s:B0 P ops Q o a w N):B0 P ops Q o a w b:=by
 unfold B0 at*
 split
 ·rename_i c
  rw[Yi c]at s
  exact Oper.wp_mono h s
 ·rename_i c
  rw[Yj c]at s
  exact h _ _ s
theorem B0.un{P:Program}{ops:Array Oper}{Q:Exit→Act→World→Prop}{o:Oper}{a:Act}{w:World}{N:Act→World→Prop}(g:o.guard=none)(s:B0 P ops Q o a w N):o.wp P a w N Q:=by
 unfold B0 at s
 rw[Yi (by simp[Region.wanted,g])]at s
 exact s
theorem B0.put{P:Program}{ops:Array Oper}{Q:Exit→Act→World→Prop}{o:Oper}{a:Act}{w:World}{N:Act→World→Prop}(s:B0 P ops Q o a w N):B0 P ops Q o a w (fun b w'=>N b w'∧IN o a b∧(o.guard=none→∀v d,(execOp a.eval o).run P w=.ok (.value v) d→b=a.put o.dst v)):=by
 unfold B0 at*
 split
 ·rename_i c
  rw[Yi c]at s
  exact Oper.wp_mono (fun b w' h=>⟨h.1,h.2.1,fun _=>h.2.2⟩) (jw s)
 ·rename_i c
  rw[Yj c]at s
  exact⟨s,⟨_,fun _=>rfl⟩,fun g=>absurd (by simp[Region.wanted,g]) c⟩
theorem B0.op{P:Program}{ops:Array Oper}{Q:Exit→Act→World→Prop}{o:Oper}{a:Act}{w:World}{N:Act→World→Prop}{k:Nat}(b:ops[k]?=some o)(s:B0 P ops Q o a w N):wpOp P ops Q k N a w:=by
 unfold wpOp
 simp only[b]
 unfold B0 at s
 split
 ·rename_i c
  rw[Yi c]at s
  exact .inl s
 ·rename_i c
  rw[Yj c]at s
  exact s
theorem Qa{o:Oper}(h:Eh o=true):o.guard=none:=by
 unfold Eh at h
 cases a:o.guard with
 |none=>rfl
 |some _=>rw[a]at h;cases h
def JF(β:Nat→Nat)(env:List (Nat×Nat))(a:Act):Prop:=∀p∈env,∀b,pb (a.eval (.tmp p.1))=some b→b=β p.2
theorem eval_put(a:Act)(d j:Nat)(u:Value)(h:j≠d):(a.put (some d) u).eval (.tmp j)=a.eval (.tmp j):=by
 simp only[Act.put,Act.eval,Ys,Lw]
 grind
theorem rx(a:Act)(d:Nat)(u:Value):(a.put (some d) u).eval (.tmp d)=u∨(a.put (some d) u).eval (.tmp d)=Go.undef:=by
 simp only[Act.put,Act.eval,Ys,Lw]
 grind
theorem JF.put{P:Program}{β:Nat→Nat}{env:List (Nat×Nat)}{a i:Act}{o:Oper}{w:World}(j:JF β env a)(h:IN o a i)(x:∀z,HA P o=some z→∃v n,(execOp a.eval o).run P w=.ok (.value v) n∧i=a.put o.dst v):JF β (CF P env o) i:=by
 intro p c b f
 unfold CF at c
 cases g:o.dst with
 |none=>
  rw[g]at c
  obtain⟨u,l⟩:=h
  rw[l,g]at f
  exact j p c b f
 |some d=>
  rw[g]at c
  rcases Jp.1 c with c|c
  ·cases hs:HA P o with
   |none=>rw[hs]at c;cases c
   |some z=>
    rw[hs]at c
    dsimp only at c
    cases he:HC z env with
    |none=>rw[he]at c;cases c
    |some r=>
     rw[he]at c
     rcases Lr.1 c with rfl
     obtain⟨v,n,q,s⟩:=x z hs
     rw[s,g]at f
     have Ao:pb v=some b:=by
      rcases rx a d v with e|e
      ·grind
      ·rw[e]at f;cases f
     exact j _ (Ix he) b (kW hs q Ao)
  ·obtain⟨t,m⟩:=Jo.1 c
   obtain⟨u,l⟩:=h
   have k:p.1≠d:=fun e=>by rw[e]at m;simp at m
   rw[l,g,eval_put a d p.1 u k]at f
   exact j p t b f
section
variable {P:Program} {Q:Exit→Act→World→Prop} {L:List Oper} {S:World→Prop}
theorem rS{ops:Array Oper}{i:Nat}{l:Oper}{v:Value}(hi:ops[i]?=some l)(F:CN P l=true)(N:∀(j:Nat) (o:Oper),ops[j]?=some o→o.guard=none)(p:∀(j:Nat) (o:Oper) cs b,ops[j]?=some o→o.op≠.select cs b)
  (hQ:∀c a w,¬Q (.panic c) a w) (R:¬LetsOut Q):∀(fuel:Nat) (listed:Array Bool) (a:Act) (w:World),DC ops listed→
   (∀j g,ops[j]?=some g→j≠i→listed.getD j true=false→¬Waits ops j i→l.apart ops g=true∧(CN P g||H3 g)=true)→
   i∈Region.ready .any ops listed→(execOp a.eval l).run P w=.ok (.value v) w→S w→
   wpAnyH P .any ops Q S fuel (listed.setIfInBounds i true) (a.put l.dst v) w→wpAnyH P .any ops Q S (fuel+1) listed a w:=by
 have O:∀{a:Act} {w:World} {K:Act→World→Prop},(execOp a.eval l).run P w=.ok (.value v) w→K (a.put l.dst v) w→wpOp P ops Q i K a w:=fun hy h=>by
  unfold wpOp
  simp only[hi]
  rw[Yi (by simp[Region.wanted,N i l hi])]
  left
  unfold Oper.wp
  rw[hy]
  exact h
 intro fuel
 induction fuel with
 |zero=>
  intro listed a w _ _ q hy T H
  refine⟨fun h=>(by rw[h]at q;cases q),fun j r=>?_⟩
  by_cases f:j=i
  ·grind
  ·have:=ready_mono r f
   rw[H.1]at this
   cases this
 |succ fuel V=>
  intro listed a w J L q hy T H
  refine⟨fun h=>(by rw[h]at q;cases q),fun j r=>?_⟩
  by_cases f:j=i
  ·grind
  ·have d:=H.2 j (ready_mono r f)
   obtain⟨t,g,m,M⟩:=mem_ready.1 r
   have s:=(mem_ready.1 q).1
   obtain⟨A,E⟩:=L j g m f t (J.nowait r s)
   obtain⟨W,X,Y⟩:=Oper.apart_spec A
   obtain⟨Z,q2⟩:=iC (P:=P) (ρ:=a.eval) E
   unfold wpOp at d⊢
   simp only[m]at d⊢
   have I:∀y,Region.wanted g y=true:=fun y=>by simp[Region.wanted,N j g m]
   rw[Yi (I _)]at d⊢
   rcases d with d|⟨_,d⟩
   case inr=>exact absurd d R
   left
   unfold Oper.wp at d⊢
   rw[execOp_put g (fun cs b=>p j g cs b m) a l.dst v W]at d
   cases e:(execOp a.eval g).run P w with
   |halt x w'=>
    rw[e]at d
    cases x<;>simp only[Oper.upon]at d
    grind
   |ok n w'=>
    have G:=Z _ _ _ e
    obtain⟨u,rfl⟩:=q2 _ _ _ e
    rw[e]at d
    simp only[Oper.upon]at d⊢
    refine⟨d.1,V (listed.setIfInBounds j true) (a.put g.dst u) w' (J.ready r) (fun k ok U C z D=>?_) (ready_mono q (Ne.symm f)) ?_ d.1 ?_⟩
    ·refine L k ok U C ?_ D
     by_cases B:j=k
     ·grind
     ·rw[getD_set_ne true B]at z;exact z
    ·rw[execOp_put l (fun cs b=>p i l cs b hi) a g.dst u Y];exact uB F _ _ _ _ hy G
    ·rw[ag _ _ f,←Act.put_comm a v u X];exact d.2
theorem sJ{β:Nat→Nat}{F:Nat→Prop}{w0:World}(hS0:∀b w,F b→S w→w.heap[b]?=w0.heap[b]?)(hC:∀b,F b→DX w0 b)(hsel:∀(j:Nat) (o:Oper) cs b,L.toArray[j]?=some o→o.op≠.select cs b)(hQ:∀c a w,¬Q (.panic c) a w)(hO:¬LetsOut Q):
  ∀(π:Pl) (env:List (Nat×Nat)) (listed:List Nat) (g:Array Bool) (a:Act) (w:World),g.size=L.length→(∀j,j<L.length→(g.getD j true=true↔j∈listed))→(∀x∈listed,x<L.length)→DC L.toArray g→Fi P L env listed π=true→(∀p∈env,F (β p.2))→JF β env a→S w→
   Dq P L Q S π a w→(Kw π=true→wpAnyH P .any L.toArray Q S π.len g a w)∧
    ∀k∈Ol π,wpOp P L.toArray Q k (fun l w'=>S w'∧wpAnyH P .any L.toArray Q S (π.len-1) (g.setIfInBounds k true) l w') a w:=by
 have un:∀(g:Array Bool) (listed:List Nat) (i:Nat),(∀j,j<L.length→(g.getD j true=true↔j∈listed))→i<L.length→listed.any (Nat.beq i)=false→g.getD i true=false:=fun g listed i hl Y c1=>by
  cases hb:g.getD i true with
  |false=>rfl
  |true=>have:=E2.2 ((hl i Y).1 hb);rw[c1]at this;cases this
 have next:∀(g:Array Bool) (listed:List Nat) (i:Nat),g.size=L.length→(∀j,j<L.length→(g.getD j true=true↔j∈listed))→∀j,j<L.length→((g.setIfInBounds i true).getD j true=true↔j∈i::listed):=fun g listed i hs hl j hj=>by
  by_cases D:i=j
  ·subst D
   simp only[YK,true_or,iff_true]
   simp[hs,hj]
  ·rw[getD_set_ne true D,hl j hj,YK]
   exact⟨.inr,fun h=>h.resolve_left (Ne.symm D)⟩
 have rdy:∀(g:Array Bool) (listed:List Nat) (i:Nat) (f:Oper),g.size=L.length→(∀j,j<L.length→(g.getD j true=true↔j∈listed))→(∀x∈listed,x<L.length)→L[i]?=some f→listed.any (Nat.beq i)=false→
   f.after.toList.all (fun e=>!Region.binds .any e||listed.any (Nat.beq e.on))=true→i∈Region.ready .any L.toArray g:=fun g listed i f hs hl B hi c1 c2=>
  mem_ready.2 ⟨un g listed i hl (Yd.1 hi).1 c1,f,by simpa using hi,fun e he hb=>by
   have V:=Yk.1 c2 e (by simpa using he)
   rw[hb]at V
   simp only[YR,F6]at V
   have hm:=E2.1 V
   have X:=B _ hm
   have A:=(hl _ X).2 hm
   simp only[Ys]at A⊢
   rw[Ym (by omega)]at A⊢
   simpa using A⟩
 have envF:∀(env:List (Nat×Nat)) (o:Oper),(∀p∈env,F (β p.2))→∀p∈CF P env o,F (β p.2):=fun env o hF p hp=>by
  unfold CF at hp
  split at hp
  ·exact hF p hp
  ·rcases Jp.1 hp with hp|hp
   ·split at hp
    ·split at hp
     ·rename_i r R
      have e:=Lr.1 hp
      rw[e]
      have:=hF _ (Ix R)
      exact this
     ·cases hp
    ·cases hp
   ·exact hF p (Jo.1 hp).1
 have m:∀(env:List (Nat×Nat)) (o:Oper) (a l:Act) (w:World) (N:Act→World→Prop),B0 P L.toArray Q o a w N→K8 P o=true→JF β env a→IN o a l→(o.guard=none→∀v w1,(execOp a.eval o).run P w=.ok (.value v) w1→l=a.put o.dst v)→JF β (CF P env o) l:=fun env o a l w N hw hgk M V X=>by
  refine M.put (P:=P) (w:=w) V fun z hz=>?_
  have E:o.guard=none:=by
   unfold K8 at hgk
   rw[hz]at hgk
   exact Qa (by simpa using hgk)
  have hw:=hw.un E
  have X:=X E
  have hv:CU P o=true:=by unfold HA at hz;cases hv:CU P o with|true=>rfl|false=>rw[hv]at hz;cases hz
  obtain⟨v1,v2⟩:=Ql (P:=P) (ρ:=a.eval) hv
  unfold Oper.wp at hw
  cases d:(execOp a.eval o).run P w with
  |halt x w'=>
   rw[d]at hw
   cases x<;>simp only[Oper.upon]at hw
   exact absurd hw (hQ _ _ _)
  |ok n w'=>
   obtain⟨u,rfl⟩:=v2 _ _ _ d
   exact⟨u,w',rfl,X u w' d⟩
 intro π
 induction π with
 |nil=>
  intro env listed g a w hs hl B hD G hF M hS h
  unfold Fi at G
  rw[Yk]at G
  refine⟨fun _=>⟨?_,h⟩,fun k K=>by cases K⟩
  cases R:Region.ready .any L.toArray g with
  |nil=>rfl
  |cons x xs=>
   have hx:x∈Region.ready .any L.toArray g:=by rw[R];exact YM ..
   obtain⟨h0,o,ho,_⟩:=mem_ready.1 hx
   have B:x<L.length:=by have:=(YQ.1 ho).1;simpa using this
   have:=(hl x B).2 (E2.1 (G x (N5.2 B)))
   rw[h0]at this
   cases this
 |two i j x y ihx ihy=>
  intro env listed g a w hs hl B hD G hF M hS h
  unfold Fi at G
  unfold Dq at h
  cases hi:L[i]? with
  |none=>rw[BT,hi]at G;simp at G
  |some f=>
   cases hj:L[j]? with
   |none=>rw[BT,BT,hi,hj]at G;simp at G
   |some U=>
    rw[BT,BT,hi,hj]at G h
    dsimp only at h
    simp only[Yb,YF]at G
    obtain⟨⟨⟨⟨⟨⟨⟨⟨⟨c0,c1⟩,c2⟩,c5⟩,W,cgj⟩,c6⟩,c7⟩,c8⟩,cx⟩,cy⟩:=G
    refine⟨fun _=>?_,fun k K=>by cases K⟩
    have Y:i<L.length:=(Yd.1 hi).1
    have hjL:j<L.length:=(Yd.1 hj).1
    obtain⟨V,X⟩:=h
    have lt':∀k,k<L.length→∀z∈k::listed,z<L.length:=fun k K z hz=>by
     rcases YK.1 hz with rfl|hz
     ·exact K
     ·exact B z hz
    show wpAnyH P .any L.toArray Q S (x.len+1) g a w
    have hready:∀k∈Region.ready .any L.toArray g,k=i∨k=j:=fun k K=>by
     obtain⟨k0,ok,Z,s⟩:=mem_ready.1 K
     have hkl:k<L.length:=by have:=(YQ.1 Z).1;simpa using this
     have:=iT (k:=k) c5 (by simpa using Z)
     rw[YS]at this
     rcases this with A|A|A|⟨e,he,hb,J⟩
     ·have:=(hl k hkl).2 A;rw[k0]at this;cases this
     ·exact .inl A
     ·exact .inr A
     ·have T:=s e he hb
      have h5:e.on<L.length:=by
       rcases Yz e.on g.size with h|h
       ·omega
       ·simp[Y3 h,Ys]at T
      refine absurd ((hl e.on h5).1 ?_) J
      simp only[Ys]at T⊢
      rw[Ym (by omega)]at T⊢
      simpa using T
    have R:=rdy g listed i f hs hl B hi c1 c0
    refine⟨fun h0=>(by rw[h0]at R;cases R),fun k K=>?_⟩
    rcases hready k K with rfl|rfl
    ·have hkA:L.toArray[k]?=some f:=by simpa using hi
     exact(V.put.mono fun l w' q=>⟨q.1.1,(ihx (CF P env f) (k::listed) _ l w' (by simp[hs]) (next g listed k hs hl) (lt' k Y) (hD.ready K) c7 (envF env f hF) (m env f a l w _ V W M q.2.1 q.2.2) q.1.1 q.1.2).1 cx⟩).op hkA
    ·have hkA:L.toArray[k]?=some U:=by simpa using hj
     rw[Ya c6]
     exact(X.put.mono fun l w' q=>⟨q.1.1,(ihy (CF P env U) (k::listed) _ l w' (by simp[hs]) (next g listed k hs hl) (lt' k hjL) (hD.ready K) c8 (envF env U hF) (m env U a l w _ X cgj M q.2.1 q.2.2) q.1.1 q.1.2).1 cy⟩).op hkA
 |opt hh0 i x y ihx ihy=>
  intro env listed g a w hs hl B hD G hF M hS h
  unfold Fi at G
  unfold Dq at h
  cases hi:L[i]? with
  |none=>rw[BT,hi]at G;simp at G
  |some f=>
   rw[BT,hi]at G h
   dsimp only at h
   simp only[Yb,YF,Yt]at G
   obtain⟨⟨⟨⟨⟨⟨c0,c1⟩,c5⟩,W⟩,c7⟩,cx⟩,cy⟩:=G
   have Y:i<L.length:=(Yd.1 hi).1
   obtain⟨V,X⟩:=h
   have lt':∀k,k<L.length→∀z∈k::listed,z<L.length:=fun k K z hz=>by
    rcases YK.1 hz with rfl|hz
    ·exact K
    ·exact B z hz
   have R:=rdy g listed i f hs hl B hi c1 c0
   have hB:∀k∈Ol (.opt hh0 i x y),wpOp P L.toArray Q k (fun l w'=>S w'∧wpAnyH P .any L.toArray Q S x.len (g.setIfInBounds k true) l w') a w:=fun k K=>by
    rcases YK.1 K with rfl|K
    ·have hkA:L.toArray[k]?=some f:=by simpa using hi
     exact(V.put.mono fun l w' q=>⟨q.1.1,(ihx (CF P env f) (k::listed) _ l w' (by simp[hs]) (next g listed k hs hl) (lt' k Y) (hD.ready R) c7 (envF env f hF) (m env f a l w _ V W M q.2.1 q.2.2) q.1.1 q.1.2).1 cx⟩).op hkA
    ·have hy:Re y=true:=by cases y with|opt _ _ _ _=>rfl|_=>cases K
     rcases cy with cy|⟨cy,cz⟩
     ·rw[hy]at cy;cases cy
     ·have:=(ihy env listed g a w hs hl B hD cz hF M hS (X hy)).2 k K
      rw[Ya cy,Nat.add_sub_cancel]at this
      exact this
   refine⟨fun hcov=>?_,hB⟩
   show wpAnyH P .any L.toArray Q S (x.len+1) g a w
   refine⟨fun h0=>(by rw[h0]at R;cases R),fun k K=>hB k ?_⟩
   obtain⟨k0,ok,Z,s⟩:=mem_ready.1 K
   have hkl:k<L.length:=by have:=(YQ.1 Z).1;simpa using this
   have:=V3 (k:=k) c5 (by simpa using Z)
   rw[YS]at this
   rcases this with A|A|⟨e,he,hb,J⟩
   ·have:=(hl k hkl).2 A;rw[k0]at this;cases this
   ·exact E2.1 (Yk.1 hcov k A)
   ·have T:=s e he hb
    have h5:e.on<L.length:=by
     rcases Yz e.on g.size with h|h
     ·omega
     ·simp[Y3 h,Ys]at T
    refine absurd ((hl e.on h5).1 ?_) J
    simp only[Ys]at T⊢
    rw[Ym (by omega)]at T⊢
    simpa using T
 |fst i rest ih=>
  intro env listed g a w hs hl B hD G hF M hS h
  unfold Fi at G
  unfold Dq at h
  cases hi:L[i]? with
  |none=>rw[BT,hi]at G;simp at G
  |some f=>
   rw[BT,hi]at G h
   dsimp only at h
   simp only[Yb,YF]at G
   obtain⟨⟨⟨⟨⟨c1,c2⟩,c3⟩,W⟩,c4⟩,c9⟩:=G
   refine⟨fun _=>?_,fun k K=>by cases K⟩
   have Y:i<L.length:=(Yd.1 hi).1
   have hiA:L.toArray[i]?=some f:=by simpa using hi
   have hun:=un g listed i hl Y c1
   have R:=rdy g listed i f hs hl B hi c1 c2
   have hlt':∀x∈i::listed,x<L.length:=fun x hx=>by
    rcases YK.1 hx with rfl|hx
    ·exact Y
    ·exact B x hx
   have ih:∀l w',S w'→JF β (CF P env f) l→Dq P L Q S rest l w'→wpAnyH P .any L.toArray Q S rest.len (g.setIfInBounds i true) l w':=fun l w' hS' hJ' h=>
    (ih (CF P env f) (i::listed) _ l w' (by simp[hs]) (next g listed i hs hl) hlt' (hD.ready R) c4 (envF env f hF) hJ' hS' h).1 c9
   have hli:∀j,j<L.length→g.getD j true=false→j∉listed:=fun j hj hun hm=>by
    have:=(hl j hj).2 hm
    rw[hun]at this
    cases this
   have free:Nh.chkV P L listed i f 0 L=true→∀j U,L.toArray[j]?=some U→j≠i→g.getD j true=false→(∀e∈U.after,Region.binds .any e=true→e.on≠i)→f.apart L.toArray U=true:=fun c3 j U O D H J=>by
    have hjl:j<L.length:=by have:=(YQ.1 O).1;simpa using this
    have:=iQ (k:=j) c3 (by simpa using O)
    rw[YS]at this
    rcases this with A|A|⟨e,he,hb,he2⟩|A
    ·exact absurd A (hli j hjl H)
    ·exact absurd A D
    ·exact absurd he2 (J e he hb)
    ·exact A
   show wpAnyH P .any L.toArray Q S (rest.len+1) g a w
   by_cases hv:(Eh f&&CU P f)=true
   ·rw[Yb]at hv
    obtain⟨I,hv⟩:=hv
    have E:=Qa I
    rw[I,hv]at c3
    simp only[Hh,Im]at c3
    have h:=h.un E
    have m:∀(env:List (Nat×Nat)) (o:Oper) (a l:Act) (w:World) (N:Act→World→Prop),o=f→o.wp P a w N Q→JF β env a→IN o a l→(∀v w1,(execOp a.eval o).run P w=.ok (.value v) w1→l=a.put o.dst v)→JF β (CF P env o) l:=fun env o a l w N he hw M V X=>by
     subst he
     exact m env o a l w N (by unfold B0;rw[Yi (by simp[Region.wanted,E])];exact hw) W M V fun _=>X
    obtain⟨v1,v2⟩:=Ql (P:=P) (ρ:=a.eval) hv
    have h0:=h
    unfold Oper.wp at h
    cases d:(execOp a.eval f).run P w with
    |halt x w'=>
     rw[d]at h
     cases x<;>simp only[Oper.upon]at h
     exact absurd h (hQ _ _ _)
    |ok n w'=>
     obtain⟨rfl,v3⟩:=v1 _ _ _ d
     obtain⟨u,rfl⟩:=v2 _ _ _ d
     rw[d]at h
     simp only[Oper.upon]at h
     exact wpAnyH_first hiA hsel (fun c a w hq=>absurd hq (hQ _ _ _)) rest.len g a w' (free c3) R (.inl ⟨by simp[Region.wanted,E],fun w2 _=>v3 w2⟩) hS (ih _ _ h.1 (m env f a _ w' _ rfl h0 M ⟨u,fun _=>rfl⟩ fun v w1 e=>by rw[d]at e;cases e;rfl) h.2)
   ·by_cases q:(Eh f&&M8 env f)=true
    ·rw[Yb]at q
     obtain⟨I,q⟩:=q
     have E:=Qa I
     rw[I,q]at c3
     simp only[N7,Im]at c3
     rw[I,Y1]at hv
     have hv':CU P f=false:=by cases hq:CU P f with|false=>rfl|true=>exact absurd hq hv
     have h:=h.un E
     have m:∀(env:List (Nat×Nat)) (o:Oper) (a l:Act) (w:World) (N:Act→World→Prop),o=f→o.wp P a w N Q→JF β env a→IN o a l→(∀v w1,(execOp a.eval o).run P w=.ok (.value v) w1→l=a.put o.dst v)→JF β (CF P env o) l:=fun env o a l w N he hw M V X=>by
      subst he
      exact m env o a l w N (by unfold B0;rw[Yi (by simp[Region.wanted,E])];exact hw) W M V fun _=>X
     obtain⟨t,x,y,r,ho,hy,he⟩:∃t x y r,f.op=.load t x∧II x=some y∧HC y env=some r:=by
      unfold M8 at q
      split at q
      ·rename_i t x ho
       split at q
       ·rename_i y hy
        obtain⟨r,R⟩:=Y0.1 q
        exact⟨t,x,y,r,ho,hy,R⟩
       ·cases q
      ·cases q
     have hrd:CN P f=true:=by unfold CN;rw[hv',ho];rfl
     obtain⟨v1,v2⟩:=Mw (P:=P) (ρ:=a.eval) hrd
     have h0:=h
     unfold Oper.wp at h
     cases d:(execOp a.eval f).run P w with
     |halt x w'=>
      rw[d]at h
      cases x<;>simp only[Oper.upon]at h
      exact absurd h (hQ _ _ _)
     |ok n w'=>
      have e:=v1 _ _ _ d
      subst e
      obtain⟨u,rfl⟩:=v2 _ _ _ d
      rw[d]at h
      simp only[Oper.upon]at h
      have hyl:YieldsIf P L.toArray S f u a:=.inl ⟨by simp[Region.wanted,E],fun w2 hS2=>by
       obtain⟨b,hb,hlo⟩:=v7 (w2:=w2) ho d
       have hb':b=β r:=M _ (Ix he) b (by rw[←P6 hy];exact hb)
       have hFb:F b:=by rw[hb'];exact hF _ (Ix he)
       have e1:=hS0 b w' hFb hS
       have e2:=hS0 b w2 hFb hS2
       obtain⟨C,q1,q2,q3⟩:=hC b hFb
       exact hlo ⟨C,q1,q2,by rw[e1];exact q3⟩ (by rw[e1,e2])⟩
      exact wpAnyH_first hiA hsel (fun c a w hq=>absurd hq (hQ _ _ _)) rest.len g a w' (free c3) R hyl hS (ih _ _ h.1 (m env f a _ w' _ rfl h0 M ⟨u,fun _=>rfl⟩ fun v w1 e=>by rw[d]at e;cases e;rfl) h.2)
    ·have hq0:(Eh f&&(CU P f||M8 env f))=false:=by
      cases V:Eh f<;>cases X:CU P f<;>cases A:M8 env f<;>simp_all
     rw[hq0]at c3
     dsimp only at c3
     by_cases s:L.all Eh=true
     case neg=>
      have s:L.all Eh=false:=by cases hq:L.all Eh with|false=>rfl|true=>exact absurd hq s
      rw[s]at c3
      dsimp only at c3
      refine⟨fun h0=>(by rw[h0]at R;cases R),fun k K=>?_⟩
      have hki:k=i:=by
       obtain⟨k0,ok,Z,s⟩:=mem_ready.1 K
       have hkl:k<L.length:=by have:=(YQ.1 Z).1;simpa using this
       have:=V3 (k:=k) c3 (by simpa using Z)
       rw[YS]at this
       rcases this with A|A|⟨e,he,hb,J⟩
       ·have:=(hl k hkl).2 A;rw[k0]at this;cases this
       ·exact Lr.1 A
       ·have T:=s e he hb
        have h5:e.on<L.length:=by
         rcases Yz e.on g.size with h|h
         ·omega
         ·simp[Y3 h,Ys]at T
        refine absurd ((hl e.on h5).1 ?_) J
        simp only[Ys]at T⊢
        rw[Ym (by omega)]at T⊢
        simpa using T
      subst hki
      exact(h.put.mono fun l w' q=>⟨q.1.1,ih l w' q.1.1 (m env f a l w _ h W M q.2.1 q.2.2) q.1.2⟩).op hiA
     rw[s]at c3
     dsimp only at c3
     have hu:∀(j:Nat) (o:Oper),L.toArray[j]?=some o→o.guard=none:=fun j o ho=>Qa (Yk.1 s o (Yn (by simpa using ho)))
     have E:=hu i f hiA
     have I:Eh f=true:=Yk.1 s f (Yn hi)
     rw[I,Y1]at hv
     have h:=h.un E
     have h':=jw h
     have m:∀(env:List (Nat×Nat)) (o:Oper) (a l:Act) (w:World) (N:Act→World→Prop),o=f→o.wp P a w N Q→JF β env a→IN o a l→(∀v w1,(execOp a.eval o).run P w=.ok (.value v) w1→l=a.put o.dst v)→JF β (CF P env o) l:=fun env o a l w N he hw M V X=>by
      subst he
      exact m env o a l w N (by unfold B0;rw[Yi (by simp[Region.wanted,E])];exact hw) W M V fun _=>X
     have at_:∀j U,L.toArray[j]?=some U→j≠i→g.getD j true=false→¬Waits L.toArray j i→f.apart L.toArray U=true∧CN P f=true∧(CN P U||H3 U)=true:=fun j U O D H J=>by
      have hjl:j<L.length:=by have:=(YQ.1 O).1;simpa using this
      have:=iL (k:=j) c3 (by simpa using O)
      rw[YS]at this
      rcases this with A|A|A|⟨A,T⟩
      ·exact absurd A (hli j hjl H)
      ·exact absurd A D
      ·exact absurd A J
      ·rcases T with T|T
       ·exact absurd T hv
       ·exact⟨A,T⟩
     by_cases hrd:CN P f=true
     ·obtain⟨v1,v2⟩:=Mw (P:=P) (ρ:=a.eval) hrd
      have h0:=h
      unfold Oper.wp at h
      cases d:(execOp a.eval f).run P w with
      |halt x w'=>
       rw[d]at h
       cases x<;>simp only[Oper.upon]at h
       exact absurd h (hQ _ _ _)
      |ok n w'=>
       have e:=v1 _ _ _ d
       subst e
       obtain⟨u,rfl⟩:=v2 _ _ _ d
       rw[d]at h
       simp only[Oper.upon]at h
       exact rS hiA hrd hu hsel hQ hO rest.len g a w' hD (fun j U O D H J=>⟨(at_ j U O D H J).1,(at_ j U O D H J).2.2⟩) R d hS (ih _ _ h.1 (m env f a _ w' _ rfl h0 M ⟨u,fun _=>rfl⟩ fun v w1 e=>by rw[d]at e;cases e;rfl) h.2)
     ·refine⟨fun h0=>(by rw[h0]at R;cases R),fun j hj=>?_⟩
      have D:j=i:=by
       apply Lu
       intro D
       obtain⟨H,U,O,_⟩:=mem_ready.1 hj
       exact hrd (at_ j U O D H (hD.nowait hj hun)).2.1
      subst D
      unfold wpOp
      simp only[hiA]
      rw[Yi (by simp[Region.wanted,hu j f hiA])]
      exact .inl (Oper.wp_mono (fun l w' q=>⟨q.1.1,ih l w' q.1.1 (m env f a l w _ rfl h M q.2.1 q.2.2) q.1.2⟩) h')
end
def G2(r:Ren):List (Ab×Blk)→Prop
 |[]=>True
 |(k,_)::t=>match Nat.beq k.1 1 with|true=>G2 r t|false=>Jn r k∧G2 r t
def Oh:List (Ab×Blk)→Hp→Hp
 |[],H=>H
 |(k,b)::t,H=>Oh t (updH H k b)
def mU(P:Program)(l n os:Nat)(r:Ren)(c:Option Nat)(d:AV)(xs:List AV)(a:AT)(K:St→AT→Prop)(τ:St):Prop:=
 match d,a with
 |.fn (.func f) [] [],.hard x ks Ao [] b=>(match ks.all (Bk os),C3 os Ao with
  |true,true=>Gx P l r f xs (ks.map fun k=>(k,τ.H k)) x Ao []∧G2 r Ao∧Pc n K τ.s (Oh Ao τ.H) x b c
  |_,_=>False)
 |_,_=>False
def yC:AT→Bool
 |.hard _ _ _ _ _=>true
 |_=>false
def Tf(P:Program)(T:Nat→Option TI)(l n os:Nat)(r:Ren)(o:Oper)(a:AT)(K:St→AT→Prop)(τ:St):Prop:=
 match yC a,o.op with
 |true,.call c=>(match c.callee with
  |.value b=>mU P l n os r o.dst (ev τ.s b) (c.args.toList.map (ev τ.s)) a K τ
  |_=>False)
 |_,_=>GA P T l n r o a K τ
section
variable {P:Program} {T:Nat→Option TI} {r:Ren} {l n outs:Nat} {B:Base} {env:Bl} {τ σ:St} {a:AT} {o:Oper} {K:St→AT→Prop}
theorem iA(f:RenOk r l outs):∀(Ao:List (Ab×Blk)) {τ σ:St},C3 outs Ao=true→G2 r Ao→RG r l outs env τ σ→RG r l outs env ⟨τ.s,Oh Ao τ.H⟩ ⟨σ.s,CG r Ao σ.H⟩
 |[],τ,σ,_,_,h=>h
 |(k,b)::t,τ,σ,e,a,h=>by
  simp only[C3,Yb]at e
  obtain⟨⟨⟨i,j⟩,n⟩,m⟩:=e
  have d:IP r outs k∧G2 r t:=by
   unfold G2 at a
   rcases Fa i with c|⟨c,g⟩
   ·rw[c]at a;exact⟨.inl c,a⟩
   ·rw[c]at a;exact⟨.inr ⟨c,g,a.1.2⟩,a.2⟩
  exact iA f t (τ:=⟨τ.s,updH τ.H k b⟩) (σ:=⟨σ.s,updH σ.H (r.κ k) (AA r k b)⟩) m d.2 (RG.updH f h k b j d.1)
theorem uQ(E:RenOk r l outs)(N:AX P T)(h:RG r l outs env τ σ)(t:BV env [] o.op=true)(G:Gm env o.dst=true)(d:Tf P T l n outs r o a K τ):B4 P l n B o (KA r l n outs B (D7 env o.dst) K) σ:=by
 unfold Tf at d
 split at d
 case h_2=>exact ii E N h t G d
 rename_i c S H
 split at d
 case h_2=>exact d.elim
 rename_i s e
 unfold mU at d
 split at d
 case h_2=>exact d.elim
 rename_i f x ks Ao b C
 split at d
 case h_2=>exact d.elim
 rename_i D j
 obtain⟨L,z,M⟩:=d
 have ops:∀x∈o.op.operands,ev σ.s x=ren r (ev τ.s x):=by
  unfold BV at t
  split at t
  ·grind
  ·exact E0 h AU t
 rw[H]at ops
 have g:∀x,x=s∨x∈c.args.toList→x∈(Op.call c).operands:=fun x U=>by
  simp only[Op.operands,Call.operands,e]
  grind
 have A:ev σ.s s=.fn (.func f) [] []:=by rw[ops s (g s (.inl rfl)),C];simp[ren,Aj]
 have F:=L σ.H (fun p d=>by
  obtain⟨q,O,rfl⟩:=YU.1 d
  have m:=Fa (Yk.1 D q O)
  refine⟨?_,fun hl=>h.h q hl⟩
  obtain⟨V,I⟩:=q
  simp only at m
  rcases m with rfl|⟨rfl,z⟩
  ·have:=h.g I
   rw[←E.own]at this
   exact this
  ·exact h.go I z) h.o
 have i:Aj r (c.args.toList.map (ev τ.s))=c.args.toList.map (ev σ.s):=by
  rw[Es,Hg]
  exact EV fun y hy=>(ops y (g y (.inr hy))).symm
 refine Iw ?_
 unfold Bg
 rw[H]
 simp only[e,A,F4,Og]
 rw[i]at F
 refine F.mono fun y u ⟨R,J,v,w⟩=>?_
 have Q:R=r.γ:=funext fun k=>J k (by simp)
 subst Q
 have v:y=ren r x:=v
 have w:u=CG r Ao σ.H:=w
 subst w
 exact iP (τ':=⟨τ.s,Oh Ao τ.H⟩) G (iA E Ao j z h) v M
end
def IH(P:Program)(T:Nat→Option TI)(l n os:Nat)(r:Ren)(ds:List (Option Nat))(o:Oper)(env:Bl)(a:AT)(K:St→Bl→AT→Prop)(τ:St):Prop:=
 match o.guard with
 |none=>(match BV env [] o.op,Gm env o.dst with
  |true,true=>Tf P T l n os r o a (fun τ' c=>K τ' (D7 env o.dst) c) τ
  |_,_=>False)
 |some (i,b)=>(match A6 ds i,o.dst with
  |some (some d),some e=>(match Fb τ.s ((d,b)::lk env d),BV env ((d,b)::lk env d) o.op,fresh e env&&IE e ((d,b)::lk env d),Nat.ble (e+1) n with
   |some g,true,true,true=>pV P T l r τ o.op (some g) a (fun v c=>K ⟨upd τ.s e v,τ.H⟩ ((e,(d,b)::lk env d)::env) c)
   |_,_,_,_=>False)
  |_,_=>False)
def Fr(P:Program)(T:Nat→Option TI)(l n os:Nat)(r:Ren)(L:List Oper):Pl→Bl→AT→(St→Bl→AT→Prop)→St→Prop
 |.nil,env,a,K,τ=>K τ env a
 |.fst i x,env,a,K,τ=>match A6 L i with
  |some o=>IH P T l n os r (L.map (·.dst)) o env a (fun τ' b c=>Fr P T l n os r L x b c K τ') τ
  |none=>False
 |.two i j x y,env,a,K,τ=>match A6 L i,A6 L j,a with
  |some o,some e,.br a1 d=>IH P T l n os r (L.map (·.dst)) o env a1 (fun τ' b c=>Fr P T l n os r L x b c K τ') τ∧IH P T l n os r (L.map (·.dst)) e env d (fun τ' b c=>Fr P T l n os r L y b c K τ') τ
  |_,_,_=>False
 |.opt _ i x y,env,a,K,τ=>match A6 L i with
  |some o=>(match Re y with
   |true=>(match a with
    |.br a1 d=>IH P T l n os r (L.map (·.dst)) o env a1 (fun τ' b c=>Fr P T l n os r L x b c K τ') τ∧Fr P T l n os r L y env d K τ
    |_=>False)
   |false=>IH P T l n os r (L.map (·.dst)) o env a (fun τ' b c=>Fr P T l n os r L x b c K τ') τ)
  |none=>False
section
variable {P:Program} {T:Nat→Option TI} {r:Ren} {l n outs:Nat} {B:Base}
theorem Mj(Z:RenOk r l outs)(G:AX P T){L:List Oper}{K:St→Bl→AT→Prop}{QQ:Exit→Act→World→Prop}{o:Oper}{env:Bl}{a:AT}{τ σ:St}{act:Act}{w:World}(h:IH P T l n outs r (L.map (·.dst)) o env a K τ)(t:RG r l outs env τ σ)(x:R l n B σ act w):
  B0 P L.toArray QQ o act w (fun c w'=>∃τ' k j A,K τ' k j∧RG r l outs k τ' A∧R l n B A c w'):=by
 unfold IH at h
 unfold B0
 split at h
 ·rename_i z
  rw[Yi (by simp[Region.wanted,z])]
  split at h
  case h_2=>exact h.elim
  rename_i U Y
  refine Oper.wp_mono (fun c w' E=>?_) (uQ (B:=B) Z G t U Y h act w x QQ)
  obtain⟨A,⟨F,⟨τ',j,q,C⟩,M⟩,N⟩:=E
  exact⟨τ',_,j,F,q,C,M _ _ N⟩
 ·rename_i i b z
  split at h
  case h_2=>exact h.elim
  rename_i d e V he
  split at h
  case h_2=>exact h.elim
  rename_i g p hx f u
  simp only[Yb]at f
  have u:=Yf u
  have D:=VN t V p
  have hy:(yielded L.toArray act.tmps i==some b)=g:=by
   obtain⟨s,H⟩:=σ
   obtain⟨m,S,hO,I,W,Q,X⟩:=x.un
   exact VM Q (by simpa using D)
  cases g with
  |true=>
   have hs:=(Hq p).1 rfl
   rw[Yi (by simp only[Region.wanted,z];exact hy)]
   have O:B4 P l n B o (Yl r e (fun v j=>K ⟨upd τ.s e v,τ.H⟩ ((e,(d,b)::lk env d)::env) j) σ) σ:=Iw (by
    obtain⟨J,op,ty,ps,af,gd⟩:=o
    simp only at he
    subst he
    exact W9 G t hs (fun b' e'=>by cases e';rfl) hx (by omega) h)
   refine Oper.wp_mono (fun c w' E=>?_) (O act w x QQ)
   obtain⟨A,⟨v,j,rfl,q⟩,C⟩:=E
   exact⟨_,_,j,_,q,t.put f.1 f.2 (fun _=>rfl) (fun I=>absurd hs I),C⟩
  |false=>
   have hs:¬Cq τ.s ((d,b)::lk env d):=fun hs=>by have:=(Hq p).2 hs;cases this
   obtain⟨v,j,q⟩:=Rt h
   rw[Yj (by simp only[Region.wanted,z,hy];decide),he]
   exact⟨_,_,j,_,q,t.put f.1 f.2 (y:=.tup []) (fun h=>absurd h hs) (fun _=>rfl),R.undef x (by omega)⟩
theorem sF(A:RenOk r l outs)(v:AX P T){L:List Oper}{K:St→Bl→AT→Prop}{QQ:Exit→Act→World→Prop}{S:World→Prop}(u:∀σ a w,R l n B σ a w→S w)
  (E:∀τ' c t s b w',K τ' c t→RG r l outs c τ' s→R l n B s b w'→QQ .normal b w'):
  ∀(π:Pl) (env:Bl) (a:AT) (τ σ:St) (e:Act) (w:World),Fr P T l n outs r L π env a K τ→RG r l outs env τ σ→R l n B σ e w→Dq P L QQ S π e w:=by
 intro π
 induction π with
 |nil=>intro env a τ σ e w h f g;exact E _ _ _ _ _ _ h f g
 |fst i x F=>
  intro env a τ σ e w h f g
  unfold Fr at h
  split at h
  ·rename_i o z
   unfold Dq
   rw[z]
   exact(Mj A v h f g).mono fun b w' ⟨τ',c,t,s,k,m,d⟩=>⟨u _ _ _ d,F _ _ _ _ _ _ k m d⟩
  ·exact h.elim
 |two i j x y p q=>
  intro env a τ σ e w h f g
  unfold Fr at h
  split at h
  ·rename_i o H a1 G z C
   unfold Dq
   rw[z,C]
   exact⟨(Mj A v h.1 f g).mono fun b w' ⟨τ',c,t,s,k,m,d⟩=>⟨u _ _ _ d,p _ _ _ _ _ _ k m d⟩,(Mj A v h.2 f g).mono fun b w' ⟨τ',c,t,s,k,m,d⟩=>⟨u _ _ _ d,q _ _ _ _ _ _ k m d⟩⟩
  ·exact h.elim
 |opt hs i x y p q=>
  intro env a τ σ e w h f g
  unfold Fr at h
  split at h
  ·rename_i o z
   unfold Dq
   rw[z]
   split at h
   ·split at h
    ·exact⟨(Mj A v h.1 f g).mono fun b w' ⟨τ',c,t,s,k,m,d⟩=>⟨u _ _ _ d,p _ _ _ _ _ _ k m d⟩,fun _=>q _ _ _ _ _ _ h.2 f g⟩
    ·exact h.elim
   ·rename_i hy
    exact⟨(Mj A v h f g).mono fun b w' ⟨τ',c,t,s,k,m,d⟩=>⟨u _ _ _ d,p _ _ _ _ _ _ k m d⟩,fun D=>by rw[hy]at D;cases D⟩
  ·exact h.elim
end
def zB(s:Nat→AV):List Nat→Bool
 |[]=>true
 |z::r=>(match s z with|.iptr (_::_) _=>true|_=>false)&&zB s r
theorem mi{s:Nat→AV}:∀{Z:List Nat},zB s Z=true→∀z∈Z,∃x ds off,s z=.iptr (x::ds) off
 |[],_,z,a=>by cases a
 |y::r,h,z,a=>by
  simp only[zB,Yb]at h
  rcases YK.1 a with rfl|a
  ·grind
  ·exact mi h.2 z a
def Zk(o:Oper):Bool:=match o.op with
 |.select _ _=>false
 |_=>true
def bp(P:Program)(π:Pl)(Z:List Nat):Code→Bool
 |.region _ ops true=>ops.toList.all Zk&&Nat.beq π.len ops.toList.length&&Fi P ops.toList (Z.map fun z=>(z,z)) [] π&&Kw π
 |_=>false
section
variable {P:Program} {T:Nat→Option TI} {n:Nat} {C:Cx} {τ:St} {Q:Exit→St→Prop} {os:Nat} {c:Code} {β:Type} {L:β→Prop} {y:β}
theorem EH{fx:List Nat}(co:COx C os fx)(hT:AX P T)(hm':P.follows .mixedOrders=true)(π:Pl)(Z:List Nat)(v:PT os β)(lf:Lf)(hv:v.m=some y)(hL:HL L y)(hn:∀r (g:Gd C r),v.n ⟨⟨C.l,r,Q,fun _ _=>False⟩,L,C,_,co,g,rfl⟩)
  (hq:∀l r Q A,AW r os v.a τ (fun τ a=>match zB τ.s Z with|true=>Fr P T l n os r (BC c).toList π [] a (fun τ' env f=>AW r os f (C5 env τ') (fun τ _=>Dp fx lf τ (Q .normal))) τ|false=>False)=v.q ⟨l,r,Q,A⟩:=by intro l r Q P;kernel_rfl)
  (X:bp P π Z c=true:=by kernel_rfl):LW P n C c τ Q:=by
 cases c with
 |region id ops dr=>
  cases dr with
  |false=>cases X
  |true=>
   obtain⟨t,rfl⟩:∃l:List Oper,ops=l.toArray:=⟨ops.toList,by simp⟩
   simp only[bp,Yb]at X
   obtain⟨⟨⟨k1,k2⟩,k3⟩,k4⟩:=X
   intro γ σ hg hG a w hR
   have hR':R C.l n C.B σ a {w with drawn:=w.drawn+1 }:=by
    obtain⟨s,H⟩:=σ
    obtain⟨m,S,hO,hn,hdf,hS,hex⟩:=hR.un
    obtain⟨k,u⟩:=hO.drew (w':={w with drawn:=w.drawn+1 }) rfl rfl rfl rfl
    exact R.keep k hn hdf hS hex u
   have k:=v.ok _ (hn (C.r γ) ⟨rfl,rfl,rfl,rfl⟩) y hv hL
   rw[←hq]at k
   generalize v.a=va at k
   have ok:=co.ok
   rw[←co.O,←co.F]at k
   obtain⟨τ₁,a₁,σ₁,u,G,hw1⟩:=BQ (n:=n) ok va k hG
   split at u
   case h_2=>exact u.elim
   rename_i hz
   have hR1:=hw1 _ _ hR'
   obtain⟨s1,Y⟩:=σ₁
   obtain⟨m1,D,hO1,hn1,hd1,q,I⟩:=hR1.un
   let O:Base:=⟨Y,m1,D,{w with drawn:=w.drawn+1 }⟩
   have hRB:R C.l n O ⟨s1,Y⟩ a {w with drawn:=w.drawn+1 }:=⟨m1,D,hO1,hn1,hd1,q,Ext.refl _ _ _ _ _⟩
   have E:∀d f w',R C.l n O d f w'→R C.l n C.B d f w':=fun d f w' h=>by
    obtain⟨m2,S2,U,V,g3,g4,g5⟩:=h
    exact⟨m2,S2,U,V,g3,g4,I.trans g5⟩
   let S:World→Prop:=fun w'=>∀b,D b→w'.heap[b]?=({w with drawn:=w.drawn+1 }:World).heap[b]?
   have hS1:∀d f w',R C.l n O d f w'→S w':=fun d f w' h b i=>by
    obtain⟨m2,S2,U,V,g3,g4,g5⟩:=h
    exact g5.blk b i
   have hGd:∀(j:Nat) (o:Oper),t.toArray[j]?=some o→Zk o=true:=fun j o ho=>Yk.1 k1 o (Yn (by simpa using ho))
   have K:∀(j:Nat) (o:Oper) cs b,t.toArray[j]?=some o→o.op≠.select cs b:=fun j o cs b ho he=>by
    have:=hGd j o ho
    unfold Zk at this
    rw[he]at this
    cases this
   let Q2:Exit→Act→World→Prop:=fun e f w'=>∃d,Is n C (match e with|.normal=>Q .normal|_=>fun _=>False) d∧R C.l n C.B d f w'
   have hpl:Dq P t Q2 S π a {w with drawn:=w.drawn+1 }:=by
    refine sF (ok.ren γ) hT (B:=O) hS1 (fun τ' env' f d act' w' k1 k2 k3=>?_) π [] a₁ τ₁ ⟨s1,Y⟩ a _ u G hRB
    obtain⟨σ₂,U,V⟩:=Mp (n:=n) k2
    obtain⟨τ₃,a₃,σ₃,f1,f2,f3⟩:=BQ (n:=n) ok f k1 U
    obtain⟨γ',τ₄,σ₄,j0,j1,j2,j3⟩:=Ge (n:=n) ok f1 hg f2
    exact⟨σ₄,⟨γ',τ₄,σ₄,j0,j1,j2,Wk.refl _⟩,j3 _ _ (f3 _ _ (V _ _ (E _ _ _ k3)))⟩
   have hF:∀z∈Z,∃b,pb (a.eval (.tmp z))=some b∧D b∧DX {w with drawn:=w.drawn+1 } b:=fun z hz'=>by
    obtain⟨x,ds,off,e⟩:=mi hz z hz'
    have hsz:s1 z=.iptr (x::ds) off:=by
     have:=(G.s z).1 AU
     simp only at this
     rw[this,e];simp[ren]
    have M:=q z
    rw[hsz]at M
    show∃b,pb (a.tmps.getD z Go.undef)=some b∧_
    generalize a.tmps.getD z Go.undef=vv at M
    cases M with
    |iptr _ _ ad c i hc hr=>
     refine⟨(ad.add off).block,rfl,by rw[block_add];exact i,?_⟩
     rw[block_add]
     have W:=hc 0 x rfl
     simp only[World.cell?]at W
     have hbk:(ad.add 0).block=ad.block:=block_add _ _
     rw[hbk]at W
     split at W
     ·rename_i C0 e0 f0 hh;exact⟨C0,e0,f0,hh⟩
     ·cases W
   have hw:=sJ (P:=P) (L:=t) (Q:=Q2) (S:=S) (β:=fun z=>(pb (a.eval (.tmp z))).getD 0) (F:=fun b=>D b∧DX {w with drawn:=w.drawn+1 } b) (w0:={w with drawn:=w.drawn+1 }) (fun b w' i hS=>hS b i.1) (fun b i=>i.2) K
    (fun c a w ⟨d,⟨_,_,_,_,J,_⟩,_⟩=>J) (fun⟨a,w,d,⟨_,_,_,_,J,_⟩,_⟩=>J) π (Z.map fun z=>(z,z)) [] (Array.replicate t.toArray.size false) a {w with drawn:=w.drawn+1 } (by simp) (fun j hj=>by simp[hj]) (fun x M=>by cases M)
    (fun m om hm hl=>by
     have:(Array.replicate t.toArray.size false).getD m false=false:=by
      simp only[Ys,Array.getElem?_replicate]
      split<;>rfl
     rw[this]at hl
     cases hl) (by simpa using k3)
    (fun p hp=>by
     obtain⟨z,N,rfl⟩:=YU.1 hp
     obtain⟨b,b1,b2⟩:=hF z N
     simp only[b1,YE];exact b2)
    (fun p hp b i=>by
     obtain⟨z,N,rfl⟩:=YU.1 hp
     simp only at i
     simp only[i,YE]) (fun b i=>rfl) hpl
   have hs:π.len=t.toArray.size:=by simpa using Ya k2
   rw[hs]at hw
   refine wp_mono (wp_region_held hm' (hw.1 k4)) fun e f w' ⟨d,k,u⟩=>⟨d,?_,u⟩
   cases e with
   |normal=>exact k
   |_=>obtain⟨_,_,_,_,J,_⟩:=k;exact J.elim
 |_=>cases X
@[reducible] def tw(a b:PT os β):PT os β:=⟨.br a.a b.a,fun E=>a.q E∧b.q E,a.m,fun E=>a.n E∧b.n E∧(∀y,a.m=some y→b.m=some y),fun E c y hm d=>⟨a.ok E c.1 y hm d,b.ok E c.2.1 y (c.2.2 y hm) d⟩⟩
@[reducible] def du(k:PT os β):PT os β:=⟨.br k.a k.a,fun E=>k.q E∧k.q E,k.m,k.n,fun E b y hm a=>⟨k.ok E b y hm a,k.ok E b y hm a⟩⟩
theorem WM{C:Cx}{r:Ren}(g:Gd C r):∀{Ao:List (Ab×Blk)},C3 os Ao=true→Ei C Ao→G2 r Ao
 |[],_,_=>trivial
 |(k,b)::t,c,h=>by
  simp only[C3,Yb]at c
  obtain⟨⟨⟨e,i⟩,j⟩,d⟩:=c
  unfold G2
  unfold Ei at h
  rcases Fa e with a|⟨a,f⟩
  ·rw[a]at h⊢;exact WM g d h
  ·rw[a]at h⊢;exact⟨⟨a,by rw[g.no,g.κ];exact h.1⟩,WM g d h.2⟩
@[reducible] def ch{γ:Type}[Inhabited γ](P:Program)(f:FuncId)(xs:List AV)(ks:List Ab)(d:List (Ab×Blk))(M:Option γ)(e:γ→AV)(Ao:γ→List (Ab×Blk))(k:γ→PT os β)(b:∀z,C3 os (Ao z)=true:=by intro z;kernel_rfl):PT os β:=
 ⟨.hard (e (M.getD default)) ks (Ao (M.getD default)) [] (k (M.getD default)).a,fun E=>Gx P E.l E.r f xs d (e (M.getD default)) (Ao (M.getD default)) []∧G2 E.r (Ao (M.getD default))∧(k (M.getD default)).q E,M.bind fun y=>(k y).m,
 fun E=>(∀y,M=some y→Gx P E.C.l E.E.r f xs d (e y) (Ao y) [])∧(∀y,Ei E.C (Ao y))∧∀y,(k y).n E,fun E a y hm i=>by
  obtain⟨x,c,g⟩:=bind_some hm
  have h:M.getD default=x:=by rw[c];rfl
  rw[h]
  exact⟨by rw[E.hl];exact a.1 x c,WM E.g (b x) (a.2.1 x),(k x).ok E (a.2.2 x) y g i⟩⟩
end
end Go.Eng
namespace Go.Eng
set_option linter.all false
open Go Go.RowKit
section
variable {os:Nat} {β α:Type} [Rw α]
abbrev S6(xs:List α)(off cn:Nat)(z:List AV):List AV:=(Ac Rw.e xs).take (off*Rw.s α)++(List.replicate cn z).flatten++(Ac Rw.e xs).drop ((off+cn)*Rw.s α)
@[reducible] def cr(xs:List α)(off cn:Nat)(z:List AV)(k:PT os β):PT os β:=⟨.cs (S6 xs off cn z) k.a,fun E=>SR (Ac Rw.e xs) off cn (Rw.s α) z (S6 xs off cn z)∧k.q E,
 if off+cn≤xs.length then k.m else none,k.n,fun E c y hm b=>by
  obtain⟨a,hm⟩:=Bs hm
  exact⟨uA Rw.len a,k.ok E c y hm b⟩⟩
@[reducible] def R2(q:Nat)(xs:List α)(off cn:Nat)(z:List AV)(k:PT os β)(d:Nat.ble (q+1) os=true:=by kernel_rfl):PT os β:=⟨.trim (0,q) (Ac Rw.e (xs.take off)) k.a,fun E=>(∃m,(S6 xs off cn z).take m=Ac Rw.e (xs.take off))∧Jn E.r (0,q)∧k.q E,
 if off≤xs.length then k.m else none,k.n,fun E c y hm b=>by
  obtain⟨a,hm⟩:=Bs hm
  exact⟨vb Rw.len a,⟨rfl,by rw[E.g.no,E.g.κ];exact E.co.W q (Yf d)⟩,k.ok E c y hm b⟩⟩
end
theorem yH{P:AV→List Blk→Prop}{v a:AV}{B:List Blk}(e:v=a)(h:P a B):P v B:=e▸h
theorem ND{A B:Prop}(b:A→B)(a:A):B:=b a
def gF(a fr:List Nat)(δ:Nat→Nat):Ab→Nat
 |(0,i)=>match fr.any (Nat.beq i)with|true=>δ i|false=>FZ a (0,i)
 |(_+1,_)=>0
def rF(l:Nat)(ks:List Ab)(a fr:List Nat)(δ:Nat→Nat)(H:Hp):Ren:=⟨Dl l ks,gF a fr δ,fun _=>.top,H,fun k=>k∈ks⟩
def G8(κ:Ab→Ab):List (Nat×Nat)→Prop
 |[]=>True
 |(a,b)::t=>(κ (0,a)).1≤(κ (0,b)).1∧G8 κ t
structure KG (P:Program) (f:FuncId) (os:Nat) (fr:List Nat) (lv:List (Nat×Nat)) (ys:List AV) (bi:List Blk) {γ:Type} (M:Option γ) (e:γ→AV) (bs:γ→List Blk):Prop where
 k:∀l H (ks:List Ab) (gs:List Nat),ks.length=os→HY l ks→ks.Nodup→Ig H (BY l ks gs (fun _=>.top) H) (CS 0 bi) 0 ks→G8 (Dl l ks) lv→∀y,M=some y→
  Zca P f l (Aj (BY l ks gs (fun _=>.top) H) ys) H (fun z H'=>∃δ,z=ren (rF l ks gs fr δ H) (e y)∧H'=C6 H ks (Cn (rF l ks gs fr δ H) 0 (bs y)))
theorem Zc{P:Program}{T:Nat→Option TI}{n:Nat}{f:FuncId}{fn:Func}{ys:List AV}{bi:List Blk}{γ:Type}{M:Option γ}{e:γ→AV}{bs:γ→List Blk}(R:P.funcs[f]?=some fn)(W:fn.ntmps=n)(O:AX P T)(w:List ResultVar)(os:Nat)(fr fx:List Nat)(lv:List (Nat×Nat))
  (h:∀C:Cx,COx C os fx→G8 C.κ lv→∀y,M=some y→∀a:AV→List Blk→Prop,HL (fun y=>a (e y) (bs y)) y→LW P n C (pa [] (Ar fn)) (Aa (C7 0 ys) (CS 0 bi)) (FQ T w os a))
  (o:(HF os).all (fun i=>fr.any (Nat.beq i)||fx.any (Nat.beq i))=true:=by kernel_rfl)
  (he:∀y,H5 os (e y)=true:=by intro y;kernel_rfl) (x:∀y,EJ os (bs y):=by intro y;repeat(first|exact trivial|refine⟨.inl (D2 _ _),rfl,?_⟩|refine⟨.inl Hz,rfl,?_⟩|refine⟨.inr (by kernel_rfl),rfl,?_⟩)) (hl:∀y,(bs y).length=os:=by intro y;rfl) (d:GB os (CS 0 bi)=true:=by kernel_rfl)
  (Q:fn.body=some (Ar fn):=by kernel_rfl) (c:(fn.name== "runtime.NumGoroutine")=false:=by kernel_rfl) (X:fn.results.toList=w:=by kernel_rfl) (Y:Nat.ble ys.length n=true:=by kernel_rfl):KG P f os fr lv ys bi M e bs:=
 ⟨fun l H ks m p g t K s y hy=>by
  subst p
  refine fF w (Ar fn) ks m fx (fun _=>.top) ys (CS 0 bi) (fun z b=>z=e y∧b=bs y) R Q c W X (by rw[Cb];exact Yf Y) O (Qg g) t (VS d) (Wt d) (fun i k U=>by have:=Xk K i k U;rw[YS]at this;exact this) rfl (fun C I N J V L hθ B u=>?_) fun z b ⟨D,E⟩=>?_
  ·refine h C ⟨I,N,J,fun q A=>?_⟩ (by rw[B];exact s) y hy _ ⟨rfl,rfl⟩
   rw[u,B]
   show(match A6 ks q with|some k=>k|none=>(0,0))∈ks
   rw[BT,Ye (by omega)]
   exact Ju _
  ·subst D;subst E
   refine⟨hl y,(x y).live,fun r F Z h3 h4 G=>⟨fun i=>r.γ (0,i),?_⟩⟩
   have hs:Kl ks.length r (rF l ks m fr (fun i=>r.γ (0,i)) H):=fun q A=>by
    refine⟨by rw[F];rfl,?_⟩
    show r.γ (0,q)=match fr.any (Nat.beq q)with|true=>r.γ (0,q)|false=>FZ m (0,q)
    cases v:fr.any (Nat.beq q)with
    |true=>rfl
    |false=>
     have:=Yk.1 o q (Qb A)
     rw[v,F6]at this
     obtain⟨j,S,e⟩:=YT.1 this
     have:=Ya e
     subst this
     exact G q S
   exact⟨Wo hs _ (he y),by rw[EJ.ren hs _ _ (by rw[hl];omega) (x y)]⟩⟩
def gB(r:Ren)(fr:List Nat)(δ:Nat→Nat):Nat→List (Ab×Blk)→Ab→Nat
 |_,[],k=>r.γ k
 |i,(q,_)::t,k=>match fr.any (Nat.beq i),Bi k q with|true,true=>δ i|_,_=>gB r fr δ (i+1) t k
def FY(fr:List Nat):Nat→List (Ab×Blk)→List Ab
 |_,[]=>[]
 |i,(q,_)::t=>match fr.any (Nat.beq i)with|true=>q::FY fr (i+1) t|false=>FY fr (i+1) t
theorem WR{r:Ren}{fr:List Nat}{δ:Nat→Nat}{k:Ab}:∀(a:List (Ab×Blk)) (i:Nat),k∉FY fr i a→gB r fr δ i a k=r.γ k
 |[],i,_=>rfl
 |(q,b)::t,i,h=>by
  simp only[FY]at h
  simp only[gB]
  cases c:fr.any (Nat.beq i)with
  |false=>rw[c]at h;exact WR t (i+1) h
  |true=>
   rw[c]at h
   simp only[YK,not_or]at h
   have:Bi k q=false:=by
    cases d:Bi k q with
    |false=>rfl
    |true=>exact absurd (BZ.1 d) h.1
   rw[this]
   exact WR t (i+1) h.2
def rB(r:Ren)(fr:List Nat)(δ:Nat→Nat)(a:List (Ab×Blk)):Ren:=⟨r.κ,gB r fr δ 0 a,r.θ,r.H0,r.no⟩
section
variable {P:Program} {f:FuncId} {os os':Nat} {fr fx:List Nat} {lv:List (Nat×Nat)} {ys:List AV} {bi:List Blk} {γ:Type} {M:Option γ} {e:γ→AV} {bs:γ→List Blk} {C:Cx} {r:Ren} {xs:List AV} {x:AV} {y:γ}
theorem uX(K:KG P f os fr lv ys bi M e bs)(hy:M=some y)(co:COx C os' fx)(g:Gd C r)(a u c:List (Ab×Blk))(o:G8 (Dl (C.l+1) ((a.map (·.1)).map r.κ)) lv)
  (n:∀H,BE (rC C r a (fun _=>.top) H) r 0 bi a) (i:∀H δ,BE (rF (C.l+1) ((a.map (·.1)).map r.κ) (Ec r a) fr δ H) (rB r fr δ a) 0 (bs y) c) (l:(bs y).all Blk.live=true:=by kernel_rfl) (E:∀H,Aj (rC C r a (fun _=>.top) H) ys=Aj r xs:=by intro H;kernel_rfl)
  (t:∀H δ,ren (rF (C.l+1) ((a.map (·.1)).map r.κ) (Ec r a) fr δ H) (e y)=ren (rB r fr δ a) x:=by intro H δ;kernel_rfl)
  (d:((a.map (·.1)).all (Bk os')&&FD (a.map (·.1))&&Nat.beq a.length os)=true:=by kernel_rfl) (he:a.map (·.1)=c.map (·.1):=by rfl):Gx P C.l r f xs (a++u) x c (FY fr 0 a):=by
 have q:∀b∈bs y,b.live=true:=fun b B=>Yk.1 l b B
 have m:∀p∈a,p∈a++u:=fun p s=>Iq _ s
 intro h D F
 simp only[Yb]at d
 have:=K.k (C.l+1) h ((a.map (fun p:Ab×Blk=>p.1)).map r.κ) (Ec r a) (by rw[YD,YD];exact Ya d.2) (J6 co g _ d.1.1) (Mi (Qx co g) _ d.1.2 d.1.1)
  (MN bi a 0 bi (fun j=>by have:=MA bi 0 j;rwa [YS]at this⊢) (n h) fun p s=>D p (m p s)) o y hy
 rw[←E h]
 refine this.mono fun z v ⟨δ,w,A⟩=>⟨gB r fr δ 0 a,fun k d=>WR a 0 d,w.trans (t h δ),A.trans ?_⟩
 exact V2 (r:=rB r fr δ a) (bs y) a c 0 h (i h δ) q he
end
section
variable {P:Program} {T:Nat→Option TI} {n:Nat} {C:Cx} {τ:St} {Q:Exit→St→Prop} {os k:Nat} {c:Code} {β:Type} {L:β→Prop} {y:β} {fx:List Nat}
theorem nk{r:Ren}(co:COx C os fx)(g:Gd C r)(a b:Nat):(r.κ (1,a)).1≤(r.κ (1,b)).1:=by rw[g.κ,co.ok.own,co.ok.own];exact Yh _
theorem jA{r:Ren}{a b:Nat}(g:Gd C r)(h:(C.κ (0,a)).1≤(C.κ (0,b)).1):(r.κ (0,a)).1≤(r.κ (0,b)).1:=by rw[g.κ];exact h
theorem oN{r:Ren}{a b:Nat}(g:Gd C r)(h:G8 C.κ [(a,b)]):(r.κ (0,a)).1≤(r.κ (0,b)).1∧True:=⟨jA g h.1,trivial⟩
theorem yi{r:Ren}{a b:Nat}{t:List (Nat×Nat)}(g:Gd C r)(h:G8 C.κ ((a,b)::t)){c off m:Nat}:EN r (0,b) [.ref (0,a) c off m]:=by
 unfold EN
 simp only[Aj,ren,Hf,List.all_nil,Ih,AV.low]
 have:=jA g h.1
 simpa using this
@[reducible] def y5(q:Nat)(vs:List AV)(k:PT os β)(c:Nat.ble (q+1) os=true:=by kernel_rfl):PT os β:=
 ⟨k.a,fun E=>Jn E.r (0,q)∧EN E.r (0,q) vs∧k.q E,k.m,fun E=>EN E.E.r (0,q) vs∧k.n E,fun E a y hm b=>⟨⟨rfl,by rw[E.g.no,E.g.κ];exact E.co.W q (Yf c)⟩,a.1,k.ok E a.2 y hm b⟩⟩
theorem A7{γ:Type}{M:Option γ}{kk:γ→Option β}{ss:List (Nat×AV)}{hs:List (Ab×Blk)}{f:FuncId}{os':Nat}{fr:List Nat}{lv:List (Nat×Nat)}{ys:List AV}{bi:List Blk}{e0:γ→AV}{bs:γ→List Blk}(co:COx C os fx)(hm:M.bind kk=some y)(K:KG P f os' fr lv ys bi M e0 bs)
  (a b:List (Ab×Blk)) (e:γ→AV) (Ao:γ→List (Ab×Blk)) (fl:List Ab)
  (h:∀z,kk z=some y→LO P n C c (k+1) (Aa (FJ (EB c k) (e z) (Do (FY fr 0 a) ss)) (Ao z++Cv ((Ao z).map (·.1)) (FY fr 0 a) fl hs)) Q)
  (m:∀r,Gd C r→G8 (Dl (C.l+1) ((a.map (·.1)).map r.κ)) lv:=by
   intro r g
   first
   |exact⟨nk ‹_› g _ _,trivial⟩
   |exact oN g (by assumption)
   |exact trivial)
  (xs:List AV:=[]++(FF c k).map (ev (AJ ss))++[])
  (s:∀z,Ei C (Ao z):=by intro z;repeat(first|exact trivial|refine⟨COx.W ‹_› _ (by decide),?_⟩))
  (j:H1 (As hs) fl:=by repeat(first|exact trivial|refine⟨D2 _ _,?_⟩))
  (i:∀r H,BE (rC C r a (fun _=>.top) H) r 0 bi a:=by
   intro r H
   repeat(first|exact trivial|refine⟨fun _=>⟨rfl,EZ (D2 _ _) (by kernel_rfl)⟩,by kernel_rfl,?_⟩|refine⟨fun _=>⟨rfl,EZ Hz (by kernel_rfl)⟩,by kernel_rfl,?_⟩|refine⟨fun _=>⟨rfl,by kernel_rfl⟩,by kernel_rfl,?_⟩))
  (d:∀z r H δ,BE (rF (C.l+1) ((a.map (·.1)).map r.κ) (Ec r a) fr δ H) (rB r fr δ a) 0 (bs z) (Ao z):=by
   intro z r H δ
   repeat(first|exact trivial|refine⟨fun _=>⟨rfl,EZ (D2 _ _) (by kernel_rfl)⟩,by kernel_rfl,?_⟩|refine⟨fun _=>⟨rfl,EZ Hz (by kernel_rfl)⟩,by kernel_rfl,?_⟩|refine⟨fun _=>⟨rfl,by kernel_rfl⟩,by kernel_rfl,?_⟩))
  (G:∀r H,Aj (rC C r a (fun _=>.top) H) ys=Aj r xs:=by intro r H;kernel_rfl) (t:[]++(FF c k).map (ev (AJ ss))++[]=xs:=by kernel_rfl) (u:∀z r H δ,ren (rF (C.l+1) ((a.map (·.1)).map r.κ) (Ec r a) fr δ H) (e0 z)=ren (rB r fr δ a) (e z):=by intro z r H δ;kernel_rfl)
  (q:FC c k=some (EB c k,callF c k,FF c k):=by kernel_rfl) (E:ev (AJ ss) (callF c k)=.fn (.func f) [] []:=by kernel_rfl)
  (l:(((a++b).map (·.1)).map fun k=>(k,As hs k))=a++b:=by kernel_rfl) (o:∀z,(bs z).all Blk.live=true:=by intro z;kernel_rfl) (he:∀z,a.map (·.1)=(Ao z).map (·.1):=by intro z;rfl)
  (F:((a.map (·.1)).all (Bk os)&&FD (a.map (·.1))&&Nat.beq a.length os')=true:=by kernel_rfl)
  (p:∀z,(C3 os (Ao z)&&K1 (FY fr 0 a) (Ao z)&&JW (FY fr 0 a) fx&&Gq hs&&Kn n (EB c k)&&((a++b).map (·.1)).all (Bk os))=true:=by intro z;kernel_rfl):LO P n C c k (Aa ss hs) Q:=by
 obtain⟨z,B,D⟩:=bind_some hm
 exact g0 co.ok co.O co.F f [] [] xs q E t _ (a++b) l (e z) (Ao z) (FY fr 0 a) fl (p z) (s z) j (fun r v w x A=>uX K B co ⟨v,w,x,A⟩ a b (Ao z) (m r ⟨v,w,x,A⟩) (fun H=>i r H) (fun H δ=>d z r H δ) (o z) (fun H=>G r H) (fun H δ=>u z r H δ) F (he z)) (h z D)
def dD(m:Nat):Code→Bool
 |.region _ ops true=>Nat.beq ops.toList.length (m+1)&&Rq ops.toList&&(Gs m ops.toList).all (fun o=>Ct o||BB o)&&Jb ops.toList 0 ops.toList&&(HF m).all (fun i=>MH ops.toList i ops.toList.length m)
 |_=>false
theorem Ed(co:COx C os fx)(hT:AX P T)(A:P.follows .mixedOrders=true)(m:Nat)(v:PT os β)(lf:Lf)(hv:v.m=some y)(Z:HL L y)(hn:∀r (g:Gd C r),v.n ⟨⟨C.l,r,fun _ τ'=>LO P n C c m τ' Q,fun _ _=>False⟩,L,C,_,co,g,rfl⟩)
  (hq:∀l r Q h,AW r os v.a τ (fun τ a=>FI P T l n r ((BC c).toList.map (·.dst)) (Gs m (BC c).toList) [] a (fun τ' env f=>AW r os f (C5 env τ') (fun τ _=>Dp fx lf τ (Q .normal))) τ)=v.q ⟨l,r,Q,h⟩:=by intro l r Q P;kernel_rfl)
  (t:dD m c=true:=by kernel_rfl):LW P n C c τ Q:=by
 cases c with
 |region id ops N=>
  cases N with
  |false=>cases t
  |true=>
   obtain⟨Lf,rfl⟩:∃l:List Oper,ops=l.toArray:=⟨ops.toList,by simp⟩
   simp only[dD,Yb,P2]at t
   obtain⟨⟨⟨⟨G,H⟩,E⟩,I⟩,J⟩:=t
   have G:=Ya G
   have s:∃o,Lf.drop m=[o]:=List.length_eq_one_iff.1 (by rw[Fw];omega)
   obtain⟨o,s⟩:=s
   have b:Lf=Lf.take m++[o]:=by rw[←s,Hj]
   have z:(Lf.take m).length=m:=by rw[YO];omega
   intro γ σ hg Y a w hR
   have q:=v.ok _ (hn (C.r γ) ⟨rfl,rfl,rfl,rfl⟩) y hv Z
   rw[←hq]at q
   generalize v.a=va at q
   have ok:=co.ok
   rw[←co.O,←co.F]at q
   obtain⟨τ₁,M,K,F,u,D⟩:=BQ (n:=n) ok va q Y
   simp only[BC,P2,List.toList_toArray]at F H E I J
   have k:=s3 (P:=P) (n:=n) (B:=C.B) (id:=id) (L:=Lf.take m) (o:=o) (σ:=K) (a:=a) (w:=w) (QQ:=fun e f w'=>∃p,Is n C (Q e) p∧R C.l n C.B p f w')
    (X:=fun p=>∃τ' d f,AW (C.r γ) C.outs f (C5 d τ') (fun τ _=>Dp C.fx lf τ (fun τ'=>LO P n C (.region id Lf.toArray true) m τ' Q))∧RG (C.r γ) C.l C.outs d τ' p) A (fW (by rw[←b];exact H)) E (by rw[←b];exact I)
    (fun i hi=>by rw[←b,z];exact VE _ _ (Yk.1 J i (Qb (by omega)))) (by rw[←b];exact JQ (ok.ren γ) hT _ [] M τ₁ K E F u) (fun p j w' x ⟨τ',d,f,f1,f2⟩=>?_) (D _ _ hR)
   ·rw[←b]at k;exact k
   ·obtain⟨σ₂,V,W⟩:=Mp (n:=n) f2
    obtain⟨τ₃,a₃,σ₃,O,S,U⟩:=BQ (n:=n) ok f f1 V
    obtain⟨γ',τ₄,σ₄,j0,j1,j2,j3⟩:=Ge (n:=n) ok O hg S
    have:=j1 γ' σ₄ j w' j0 j2 (j3 _ _ (U _ _ (W _ _ x)))
    simp only[BC,List.toList_toArray,s]at this
    rw[←b]
    exact this
 |_=>cases t
end
section
variable {P:Program} {l l':Nat} {H:Hp} {m:Mu} {S:Nat→Prop} {w:World}
inductive Vw (H:Hp) (l:Nat):AV→D→Prop
 |d (x:D):Vw H l (.d x) x
 |e0:Vw H l .e0 (.list [])
 |ref (k:Ab) (g n:Nat) (es:List (List D)) (hk:k.1≤l) (hg:(H k).g=g) (hn:es.length=n) (hl:(H k).live=true) (hz:∀e∈es,e.length=(H k).sz) (hp:(H k).sz≠0) (hc:(H k).cells.length=n*(H k).sz)
   (hr:∀(i:Nat) (x:AV) (d:D),(H k).cells[i]?=some x→es.flatten[i]?=some d→Vw H l x d):Vw H l (.ref k g 0 n) (.list es)
 |mp (k:Ab) (g:Nat) (a:Bool) (es:List (List D)) (hk:k.1≤l) (hg:(H k).g=g) (hl:(H k).live=true) (he:(H k).e=.m a es):Vw H l (.mp k g) (.map a es)
inductive Vx (H:Hp) (l:Nat):AV→AV→Prop
 |d (x:AV) (d:D) (h:Vw H l x d):Vx H l x (.d d)
 |ptr (k:Ab) (g:Nat) (ds:List D) (hk:k.1≤l) (hg:(H k).g=g) (hl:(H k).live=true) (hne:ds≠[]) (hc:(H k).cells.length=ds.length) (hr:∀(i:Nat) (x:AV) (d:D),(H k).cells[i]?=some x→ds[i]?=some d→Vw H l x d):Vx H l (.ptr k g 0) (.iptr ds 0)
 |fn (f:Fn) (xs ys:List AV) (hn:xs.length=ys.length) (h:∀(i:Nat) (x y:AV),xs[i]?=some x→ys[i]?=some y→Vx H l x y):Vx H l (.fn f [] xs) (.fn f [] ys)
def Lq(H:Hp)(l:Nat):List AV→List AV→Prop
 |[],[]=>True
 |x::xs,y::ys=>Vx H l x y∧Lq H l xs ys
 |_,_=>False
theorem Lq.at{H:Hp}{l:Nat}:∀{xs ys:List AV},Lq H l xs ys→xs.length=ys.length∧∀(i:Nat) (x y:AV),xs[i]?=some x→ys[i]?=some y→Vx H l x y
 |[],[],_=>⟨rfl,fun i x y h=>by simp at h⟩
 |x::xs,y::ys,⟨f,e⟩=>⟨by simp[(Lq.at e).1],fun i a b c d=>by
  cases i with
  |zero=>simp at c d;subst c;subst d;exact f
  |succ i=>simp at c d;exact(Lq.at e).2 i a b c d⟩
 |[],_::_,h=>h.elim
 |_::_,[],h=>h.elim
end
end Go.Eng
