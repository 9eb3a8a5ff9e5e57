import Derived.Test.YtifefgdogdecnaaGreatDoorEb02
import Derived.KernelRfl
import Derived.Still
import Derived.IntWalk
import Derived.Test.YtifefgdogdecnaaGreatDoorEb00
namespace Go.Eng
set_option linter.all false
open Go Go.RowKit
def args(xs:List AV):Nat→AV:=fun i=>(xs[i]?).getD .top
def BS(l:Nat)(H:Hp):Hp:=fun k=>if k.1≤l then H k else⟨0,false,0,0,[]⟩
def E1(l:Nat)(H' H:Hp):Hp:=fun k=>if k.1≤l then H' k else H k
def CE(P:Program)(σ:St):List ResultVar→(List AV→Prop)→Prop
 |[],K=>K []
 |.tmp t::b,K=>CE P σ b (fun xs=>K (σ.s t::xs))
 |.cell a t::b,K=>CC P σ.H t (σ.s a) (fun x=>CE P σ b (fun xs=>K (x::xs)))
def B6:List AV→AV
 |[x]=>x
 |xs=>.tup xs
inductive Fz (H:Hp) (l:Nat):AV→AV→Prop
 |keep (x:AV) (h:x.low l=true):Fz H l x x
 |e0:Fz H l .e0 (.d (.list []))
 |mp (k:Aa) (a:Bool) (es:List (List D)) (hk:k.1=l+1) (hl:(H k).live=true) (he:(H k).e=.m a es):Fz H l (.mp k (H k).g) (.d (.map a es))
 |ref (k:Aa) (off n:Nat) (es:List (List D)) (hk:k.1=l+1) (hl:(H k).live=true) (hn:es.length=n) (hz:(H k).sz≠0) (he:∀e,e∈es→e.length=(H k).sz)
   (hlen:(off+n)*(H k).sz≤(H k).cells.length)
   (h:∀(i j:Nat) (e:List D) (d:D) (x:AV),es[i]?=some e→e[j]?=some d→(H k).cells[(off+i)*(H k).sz+j]?=some x→Fz H l x (.d d)):
   Fz H l (.ref k (H k).g off n) (.d (.list es))
 |agg (xs ys:List AV) (hl:xs.length=ys.length) (h:∀(i:Nat) (x y:AV),xs[i]?=some x→ys[i]?=some y→Fz H l x y):Fz H l (.agg xs) (.agg ys)
 |tup (xs ys:List AV) (hl:xs.length=ys.length) (h:∀(i:Nat) (x y:AV),xs[i]?=some x→ys[i]?=some y→Fz H l x y):Fz H l (.tup xs) (.tup ys)
def Ze(P:Program)(fn:Func)(l:Nat)(H:Hp)(a:AV→Hp→Prop):Exit→St→Prop:=fun e σ=>
 (e=.normal∨e=.ret)∧CE P σ fn.results.toList (fun xs=>∃y,Fz σ.H l (B6 xs) y∧a y (E1 l σ.H H))
section
variable {P:Program} {l n:Nat} {B:Base} {H H':Hp} {m m':Mu} {S S':Nat→Prop} {w w':World} {s:Nat→AV} {a:Act} {K:St→Prop} {o:Oper} {σ:St} {Q:Exit→St→Prop}
theorem cj{t:TypeId}{v b:Value}(h:(Instr.loadAt t v).run P w=.ok b w):(do loadVar t (←asAddr v):Sem Value).run P w=.ok b w:=by
 cases v<;>try (simp[Instr.loadAt,Instr.sureAddr]at h;done)
 rename_i p
 cases p with
 |none=>simp[Instr.loadAt,Instr.sureAddr]at h
 |some a=>simpa[Instr.loadAt,Instr.sureAddr,asAddr]using h
def JC(tmps:Array Value):ResultVar→Sem Value
 |.tmp t=>pure (tmps.getD t undef)
 |.cell p t=>do loadVar t (←asAddr (tmps.getD p undef))
theorem Oi(k:Ok (l+1) H m S w)(c:BJ (l+1) s H m S a w):∀(rs:List ResultVar) (K:List AV→Prop),CE P ⟨s,H⟩ rs K→
  ∃(vs:List Value) (xs:List AV),(rs.mapM (JC a.tmps)).run P w=.ok vs w∧xs.length=vs.length∧
   (∀(i:Nat) (x:AV) (v:Value),xs[i]?=some x→vs[i]?=some v→RepA w S H m (l+1) x v)∧K xs
 |[],K,h=>⟨[],[],by simp,rfl,fun i x v h=>by simp at h,h⟩
 |.tmp t::b,K,h=>by
  obtain⟨vs,xs,f,g,n,j⟩:=Oi k c b _ h
  refine⟨a.tmps.getD t undef::vs,s t::xs,by simp only[Kd,JC,Sem.run_bind,Sem.run_pure,Result.andThen_ok,f],by simp[g],fun i x v hx d=>?_,j⟩
  cases i with
  |zero=>simp at hx d;subst hx;subst d;simpa using c t
  |succ i=>exact n i x v (by simpa using hx) (by simpa using d)
 |.cell p t::b,K,h=>by
  obtain⟨v0,r,o,u,q⟩:=Sr h (c p) k
  obtain⟨vs,xs,f,g,n,j⟩:=Oi k c b _ q
  refine⟨v0::vs,r::xs,?_,by simp[g],fun i x v hx d=>?_,j⟩
  ·have:=cj o
   have e:(JC a.tmps (.cell p t)).run P w=.ok v0 w:=this
   simp only[Kd,Sem.run_bind,e,Sem.run_pure,Result.andThen_ok,f]
  grind
def HN(l:Nat)(H:Hp)(m:Mu)(S:Nat→Prop):Nat→Prop:=fun b=>S b∨∃k:Aa,k.1=l+1∧(H k).live=true∧((m k).cap≠0∨(H k).e.isO=true)∧b=(m k).b
theorem Ok.fin(h:Ok (l+1) H m S w):Ok l H m (HN l H m S) w∧Ext l H m S w H m (HN l H m S) w:=by
 have n:Ext (l+1) H m S w H m (HN l H m S) w:=⟨fun _ h=>.inl h,fun _ _=>rfl,fun _ _=>Ye _,fun _ _ _ h=>⟨h,rfl,rfl⟩,rfl,rfl,rfl,Ye _⟩
 refine⟨⟨fun b c=>?_,fun q u=>h.empty q (by omega),fun q u hl g=>?_,fun q z u y=>h.inj q z (by omega) (by omega),fun q u hl g=>?_,
  ⟨fun k p j=>(h.mp.o k (by omega) j).mono (fun _ h=>.inl h) (fun _ _=>rfl) (fun _=>rfl),fun k p j he=>?_,fun k k' p s=>h.mp.i k k' (by omega) (by omega)⟩⟩,n.mono (by omega)⟩
 ·rcases c with c|⟨k,p,hl,g,rfl⟩
  ·exact h.sub b c
  ·rcases g with g|g
   ·obtain⟨C,c,_⟩:=h.blk k (by omega) hl g
    grind
   ·obtain⟨o,c,_⟩:=(h.mp.o k (by omega) hl).at g
    grind
 ·rintro(hs|⟨k,p,f,a,e⟩)
  ·exact h.fresh q (by omega) hl g hs
  ·rcases a with a|a
   ·have:=h.inj q k (by omega) (by omega) hl f g a e
    grind
   ·obtain⟨o,c,r⟩:=(h.mp.o k (by omega) f).at a
    obtain⟨C,d,_⟩:=h.blk q (by omega) hl g
    rw[e,c]at d;cases d;cases r
 ·obtain⟨C,c,hs,t,hx⟩:=h.blk q (by omega) hl g
  exact⟨C,c,hs,t,fun i x v hi j=>⟨(hx i x v hi j).1,(hx i x v hi j).2.ext n (by omega)⟩⟩
 ·refine⟨(h.mp.c k (by omega) j he).1,?_⟩
  rintro(hs|⟨k',s,f,a,e⟩)
  ·exact(h.mp.c k (by omega) j he).2 hs
  ·rcases a with a|a
   ·obtain⟨o,c,r⟩:=(h.mp.o k (by omega) j).at he
    obtain⟨C,d,_⟩:=h.blk k' (by omega) f a
    rw[←e,c]at d;cases d;cases r
   ·have:=h.mp.i k k' (by omega) (by omega) j f he a e
    grind
theorem Fz.sound{x y:AV}(h:Fz H l x y)(Q:Ok (l+1) H m S w):∀{v:Value},RepA w S H m (l+1) x v→RepA w (HN l H m S) H m l y v:=by
 have t:Ext (l+1) H m S w H m (HN l H m S) w:=⟨fun _ h=>.inl h,fun _ _=>rfl,fun _ _=>Ye _,fun _ _ _ h=>⟨h,rfl,rfl⟩,rfl,rfl,rfl,Ye _⟩
 induction h with
 |keep x h=>exact fun hx=>(hx.ext t (Ye _)).low h
 |e0=>
  intro v hx
  cases hx with
  |e0 N=>exact(RepA.e0 N).e0_d
 |mp k a es I hl he=>
  intro v hx
  generalize F:(H k).g=g at hx
  cases hx with
  |mpD _ _ _ p G s o=>rw[s F.symm]at hl;cases hl
  |mpL _ p q=>
   have U:=Q.mp.o k (by omega) hl
   rw[he]at U
   obtain⟨ents,A,o,O⟩:=U
   exact .d _ _ (.ofM (.inr ⟨k,I,hl,.inr (by rw[he];rfl),rfl⟩) o (O.mono (fun _ h=>.inl h) (fun _ _=>rfl)))
 |ref k off n es I hl J hz he f h u=>
  intro v hx
  generalize F:(H k).g=g at hx
  cases hx with
  |refD _ _ _ _ _ p G s o=>rw[s F.symm]at hl;cases hl
  |refL _ _ _ N p q T R=>
   by_cases K:n=0
   ·subst K
    have:es=[]:=YZ J
    subst this
    cases N with
    |none=>
     have e:(m k).cap-off=0:=by
      rcases Yw off (m k).cap with h|h
      ·have:=R h;cases this
      ·omega
     rw[e]
     exact .d _ _ .nil
    |some ad=>exact .d _ _ (.list [] ad 0 _ (fun _ _=>.bool true) (fun h=>absurd rfl h) (YT _) (fun _ h=>by cases h) (fun i j e x h=>by simp at h) (fun i j e x h=>by simp at h))
   ·have L:=R (by omega)
    subst L
    obtain⟨E,C,o,O,Z,P⟩:=Q.row (k:=k) (by omega) hl (by
     intro e
     rw[e,YK]at f
     have:=Kk (show 0<n by omega) (show 0<(H k).sz by omega)
     simp at f
     omega)
    have r:∀(i j:Nat) (e:List D) (d:D),es[i]?=some e→e[j]?=some d→(off+i)*(H k).sz+j<(H k).cells.length:=by
     intro i j e d hi c
     have W:i<n:=by
      rw[←J]
      rcases Yw i es.length with h|h
      ·exact h
      ·rw[YG h]at hi;cases hi
     have X:j<(H k).sz:=by
      rw[←he e (Yi hi)]
      rcases Yw j e.length with h|h
      ·exact h
      ·rw[YG h]at c;cases c
     have:(off+i+1)*(H k).sz≤(off+n)*(H k).sz:=YP _ (by omega)
     rw[YK (off+i)]at this
     omega
    have:=RepD.list (w:=w) (S:=HN l H m S) es ⟨(m k).b,(m k).o+off*(H k).sz,none⟩ (H k).sz ((m k).cap-off) (fun i j=>(C[(m k).o+((off+i)*(H k).sz+j)]?).getD undef)
     (fun _=>.inr ⟨k,I,hl,.inl E,rfl⟩) (by omega) he
     (fun i j e d hi c=>by
      obtain⟨v,z,_,_⟩:=P _ _ (Yb (r i j e d hi c))
      rw[Addr.add_lit,Ft o,z]
      rw[show(m k).o+off*(H k).sz+(i*(H k).sz+j)=(m k).o+((off+i)*(H k).sz+j)from by rw[YK];omega,z]
      rfl)
     (fun i j e d hi c=>by
      obtain⟨v,z,Y,V⟩:=P _ _ (Yb (r i j e d hi c))
      rw[z]
      have:=u i j e d _ hi c (Yb (r i j e d hi c)) V
      cases this with
      |d _ _ s=>exact s)
    rw[J]at this
    exact .d _ _ this
 |agg xs ys hl h u=>
  intro v hx
  cases hx with
  |agg _ vs q o B=>
   refine .agg _ _ (by omega) o (fun i y v hy M=>?_)
   have b:i<xs.length:=by
    rw[hl]
    rcases Yw i ys.length with h|h
    ·exact h
    ·rw[YG h]at hy;cases hy
   exact u i _ y (Yb b) hy (B i _ v (Yb b) M)
 |tup xs ys hl h u=>
  intro v hx
  cases hx with
  |tup _ vs q B=>
   refine .tup _ _ (by omega) (fun i y v hy M=>?_)
   have b:i<xs.length:=by
    rw[hl]
    rcases Yw i ys.length with h|h
    ·exact h
    ·rw[YG h]at hy;cases hy
   exact u i _ y (Yb b) hy (B i _ v (Yb b) M)
theorem aF{fn:Func}{KK:List AV→Prop}(j:Ok (l+1) H m S w)(k:BJ (l+1) s H m S a w)(h:CE P ⟨s,H⟩ fn.results.toList KK):
  ∃v xs,(results fn a.tmps).run P w=.ok v w∧RepA w S H m (l+1) (B6 xs) v∧KK xs:=by
 obtain⟨vs,xs,d,c,b,g⟩:=Oi j k _ _ h
 have o:∀f:ResultVar→Sem Value,(∀r,f r=JC a.tmps r)→(fn.results.mapM f).run P w=.ok vs.toArray w:=by
  intro f n
  have:f=JC a.tmps:=funext n
  subst this
  rw[Rg]
  simp[d]
 refine⟨if h:vs.toArray.size=1 then vs.toArray[0]else .tuple vs.toArray,xs,?_,?_,g⟩
 ·unfold results
  simp only[Sem.run_bind]
  rw[o _ (fun r=>by cases r<;>rfl)]
  simp
 ·match xs,vs,c,b with
  |[x],[v],_,b=>exact b 0 x v rfl rfl
  |[],[],_,_=>exact .tup _ _ rfl (fun i x v h=>by simp[B6]at h)
  |x::x'::xs,v::q::vs,c,b=>
   have e:¬((v::q::vs).toArray.size=1):=by simp
   rw[dif_neg e]
   exact .tup _ _ (by simpa using c) (fun i x v hx p=>b i x v hx (by simpa using p))
theorem dC{P:Program}{f:FuncId}{fn:Func}{c:Code}{n l:Nat}{xs:List AV}{H:Hp}{s:AV→Hp→Prop}(hf:P.funcs[f]?=some fn)(hb:fn.body=some c)(G:(fn.name== "runtime.NumGoroutine")=false)
  (hn:fn.ntmps=n) (hx:xs.length≤n) (h:∀B:Base,A5 P l n B c (Ze P fn l H s) ⟨args xs,BS l H⟩):Zbb P f l xs H s:=by
 refine⟨⟨fn,c,hf,hb,G⟩,fun m S w vs K j=>?_⟩
 have a:∀k:Aa,k.1≤l→BS l H k=H k:=fun k g=>by unfold BS;rw[Yj g]
 have hdead:∀k:Aa,¬k.1≤l→(BS l H k).live=false:=fun k g=>by unfold BS;rw[Yq g]
 have u:∀k:Aa,(BS l H k).live=true→k.1≤l:=fun k hl=>by
  grind
 have X:Ok (l+1) (BS l H) m S w:=by
  refine⟨K.sub,fun q d hl o=>?_,fun q d hl o=>?_,fun q M d I hl t o J heq=>?_,fun q d hl o=>?_,
   K.mp.stepL (fun q _ hl _=>by have:=u q hl;rw[a q this]at hl⊢;exact⟨this,hl,rfl,rfl⟩) (fun _ h=>h) (fun _ h=>.inl h) (fun _ _=>rfl) (fun _ _ h _=>h)⟩
  ·have:=u q hl;rw[a q this]at hl⊢;exact K.empty q this hl o
  ·have:=u q hl;rw[a q this]at hl;exact K.fresh q this hl o
  ·have e:=u q hl
   have e':=u M t
   rw[a q e]at hl;rw[a M e']at t
   exact K.inj q M e e' hl t o J heq
  ·have e:=u q hl
   rw[a q e]at hl⊢
   obtain⟨C,U,V,W,T⟩:=K.blk q e hl o
   exact⟨C,U,V,W,fun i x v hi O=>⟨(T i x v hi O).1,(T i x v hi O).2.agree (fun k g=>a k (by omega)) (fun _ _=>rfl)⟩⟩
 have hE:Ext l H m S w (BS l H) m S w:=⟨fun _ h=>h,fun _ _=>rfl,fun k g=>by rw[a k g];exact Ye _,fun k g _ hl=>by rw[a k g]at hl⊢;exact⟨hl,rfl,rfl⟩,rfl,rfl,rfl,Ye _⟩
 have hR:R l n ⟨H,m,S,w⟩ ⟨args xs,BS l H⟩ {tmps:=vs++Array.replicate (fn.ntmps-vs.size) undef,defers:=[] } w:=by
  refine⟨m,S,X,by simp[hn];rw[←j.1];omega,rfl,fun i=>?_,hE⟩
  simp only[args]
  cases hi:xs[i]? with
  |none=>exact .top _
  |some x=>
   have hlt:i<xs.length:=by
    grind
   have D:i<vs.size:=by rw[←j.1];exact hlt
   rw[Yp,M8 D,Ym D]
   exact((j.2 i x _ hi (Ym D)).agree (fun k g=>a k g) (fun _ _=>rfl)).lvl (Nat.le_succ l)
 refine calls_of_wp hf hb (wp_mono (h ⟨H,m,S,w⟩ _ w hR) fun e a' w' ⟨σ',d,Y⟩=>?_)
 obtain⟨s',H'⟩:=σ'
 obtain⟨m',S',A,hn',hd',Z,N⟩:=Y.un
 have done:CE P ⟨s',H'⟩ fn.results.toList (fun xs=>∃y,Fz H' l (B6 xs) y∧s y (E1 l H' H))→a'.defers=[]∧∃v,(results fn a'.tmps).run P w'=.ok v w'∧
   (∃r Q p E z,Ending.returned v=.returned Q∧s r p∧Ok l p E z w'∧RepA w' z p E l r Q∧Ext l H m S w p E z w'):=by
  intro hr
  obtain⟨v,xs,U,V,y,W,T⟩:=aF A Z hr
  obtain⟨L,k2⟩:=A.fin
  have b:∀k:Aa,k.1≤l→E1 l H' H k=H' k:=fun k g=>by unfold E1;rw[Yj g]
  refine⟨hd',v,U,y,v,E1 l H' H,m',_,rfl,T,?_,(W.sound A V).agree b (fun _ _=>rfl),?_⟩
  ·refine⟨L.sub,fun q d hl o=>?_,fun q d hl o=>?_,fun q M d I hl t o J heq=>?_,fun q d hl o=>?_,
    L.mp.step (Ye _) (fun q d hl _=>by rw[b q d]at hl⊢;exact⟨hl,rfl,rfl⟩) (fun _ h=>h) (fun _ h=>.inl h) (fun _ _=>rfl) (fun _ _ h _=>h)⟩
   ·rw[b q d]at hl⊢;exact L.empty q d hl o
   ·rw[b q d]at hl;exact L.fresh q d hl o
   ·rw[b q d]at hl;rw[b M I]at t;exact L.inj q M d I hl t o J heq
   ·rw[b q d]at hl⊢
    obtain⟨C,g1,g2,g3,g4⟩:=L.blk q d hl o
    exact⟨C,g1,g2,g3,fun i x v hi O=>⟨(g4 i x v hi O).1,(g4 i x v hi O).2.agree (fun k g=>b k (by omega)) (fun _ _=>rfl)⟩⟩
  ·have F:=Ext.trans (show Ext l H m S w H' m' S' w' from N) k2
   exact⟨F.s,F.blk,fun k g=>by rw[b k g];exact F.g k g,fun k g hg hl=>by rw[b k g]at hg hl⊢;exact F.live k g hg hl,F.os,F.tape,F.output,F.size⟩
 rcases d.1 with rfl|rfl
 ·exact done d.2
 ·exact done d.2
end
end Go.Eng
namespace Go.Eng
set_option linter.all false
open Go Go.RowKit
section
variable {P:Program} {l n:Nat} {ds:List (Option Nat)} {ops rest:List Oper} {K:St→Prop} {s:Nat→AV} {H:Hp} {d:Option Nat} {op:Op} {ty:TypeId} {ps:String} {af:Array Edge} {g:Option (Nat×Bool)}
variable {x y:Operand} {t:TypeId}
theorem Pe{l:Nat}{H:Hp}{k:Aa}(h:k.1≤l):BS l H k=H k:=by unfold BS;rw[Yj h]
theorem iC{l:Nat}{H:Hp}{i:Nat}:BS l H (l+1,i)=⟨0,false,0,0,[]⟩:=by unfold BS;rw[Yq (by simp)]
end
def Bl(o:Oper):Bool:=o.dst.isSome&&match o.op with
 |.call c=>match c.callee with
  |.value _=>true
  |.builtin .len|.builtin .min|.builtin .max=>true
  |_=>false
 |.binOp _ _ _ y _=>!Fw y
 |.alloc _|.box _ _|.store _ _ _|.buildSlice _ _ _|.makeSlice _ _ _|.makeMap _ _|.range _ _|.next _ _|.entry _=>false
 |_=>true
def PM(o:Oper):Bool:=match o.op with
 |.buildSlice _ (_+1) _=>true
 |_=>false
def BM(o:Oper):Bool:=Bl o||(o.dst.isSome&&PM o)
def XK(P:Program)(t:TypeId)(len:Nat)(ps:List (Nat×AV))(v:AV):Prop:=
 ∃e sz z es,elm P t=some (e,sz)∧sz≠0∧(len+1)*sz≤16777216∧zer P e=some z∧z.length=sz∧Dm sz 0 ps=some es∧es.length=len+1∧v=.d (.list es)
def qV(P:Program)(l:Nat)(H:Hp)(o:Oper)(ρ:Operand→AV)(v:AV):Prop:=
 match o.op with
 |.buildSlice t (len+1) parts=>XK P t len (parts.toList.map fun p=>(p.1,ρ p.2)) v
 |.call c=>match c.callee with
  |.value f=>match ρ f with
   |.fn (.func g) first a=>Zbb P g (l+1) (first++c.args.toList.map ρ++a) H (fun y b=>y=v∧b=H)
   |_=>False
  |_=>AI P H o.op ρ (fun y=>y=v)
 |_=>AI P H o.op ρ (fun y=>y=v)
def Dl(P:Program)(l n:Nat)(o:Oper)(K:St→Prop)(σ:St):Prop:=
 match o.op with
 |.buildSlice t (len+1) parts=>∃v,XK P t len (parts.toList.map fun p=>(p.1,ev σ.s p.2)) v∧Bv n o.dst K σ v
 |.call c=>match c.callee with
  |.value f=>match ev σ.s f with
   |.fn (.func g) first a=>∃r,Zbb P g (l+1) (first++c.args.toList.map (ev σ.s)++a) σ.H (fun y b=>y=r∧b=σ.H)∧Bv n o.dst K σ r
   |_=>False
  |_=>AX P l n o K σ
 |_=>AX P l n o K σ
def Cf(P:Program)(l n:Nat)(ds:List (Option Nat)):List Oper→(St→Prop)→St→Prop
 |[],K,σ=>K σ
 |o::a,K,σ=>match o.guard with
  |none=>Dl P l n o (Cf P l n ds a K) σ
  |some (i,b)=>match E0 σ.s ds i b with
   |some t=>(t=true→Dl P l n o (Cf P l n ds a K) σ)∧(t=false→match o.dst with|some d=>d<n∧Cf P l n ds a K ⟨upd σ.s d (.tup []),σ.H⟩|none=>False)
   |none=>False
section
variable {P:Program} {l n:Nat} {B:Base} {H:Hp} {K K':AV→Prop} {t:TypeId} {x y:AV} {ρ ρ':Operand→AV}
theorem SV{op:BinOp}{k:IntKind}{a b:Int}(h:∀v,K v→K' v)(c:DO op k a b K):DO op k a b K':=by
 cases op<;>simp only[DO]at c⊢<;>first|exact h _ c|exact⟨c.1,h _ c.2⟩|exact c
theorem SJ{op:BinOp}{a b:ByteArray}(h:∀v,K v→K' v)(c:DN op a b K):DN op a b K':=by
 cases op<;>simp only[DN]at c⊢<;>first|exact h _ c|exact⟨c.1,h _ c.2⟩|exact c
theorem fa{op:BinOp}{k:IntKind}{a b:Int}(c:DO op k a b K):∃v,DO op k a b (fun y=>y=v)∧K v:=by
 cases op<;>simp only[DO]at c⊢<;>first|exact⟨_,rfl,c⟩|exact⟨_,⟨c.1,rfl⟩,c.2⟩|exact c.elim
theorem eG{op:BinOp}{a b:ByteArray}(c:DN op a b K):∃v,DN op a b (fun y=>y=v)∧K v:=by
 cases op<;>simp only[DN]at c⊢<;>first|exact⟨_,rfl,c⟩|exact⟨_,⟨c.1,rfl⟩,c.2⟩|exact c.elim
theorem dK(h:CC P H t x K):∃v,CC P H t x (fun y=>y=v)∧K v:=by
 unfold CC at h⊢
 split at h
 ·grind
 ·grind
 grind
theorem ac{i:Nat}(h:CM P H t i x K):∃v,CM P H t i x (fun y=>y=v)∧K v:=by
 unfold CM at h⊢
 grind
theorem cT{i:Nat}(h:CS P t i x K):∃v,CS P t i x (fun y=>y=v)∧K v:=by
 unfold CS at h⊢
 split at h
 ·split at h
  ·grind
  grind
 grind
theorem ag(h:Cb P H t x y K):∃v,Cb P H t x y (fun y=>y=v)∧K v:=by
 unfold Cb at h⊢
 grind
theorem cS(h:De P t x y K):∃v,De P t x y (fun y=>y=v)∧K v:=by
 unfold De at h⊢
 grind
theorem fq{op:BinOp}{xs ys:List AV}(h:Ec P op t xs ys K):∃v,Ec P op t xs ys (fun y=>y=v)∧K v:=by
 unfold Ec at h⊢
 split at h
 ·grind
 grind
theorem eI{op:BinOp}(h:BB P H op t false x y K):∃v,BB P H op t false x y (fun y=>y=v)∧K v:=by
 unfold BB at h⊢
 split at h
 ·obtain⟨v,a,b⟩:=fa h.2;exact⟨v,⟨h.1,a⟩,b⟩
 ·exact eG h
 ·grind
 ·exact fq h
 ·cases h.1
 grind
theorem gD{op:UnOp}(h:CJ op x K):∃v,CJ op x (fun y=>y=v)∧K v:=by
 unfold CJ at h⊢
 grind
theorem dz{u:TypeId}(h:CV P t u x K):∃v,CV P t u x (fun y=>y=v)∧K v:=by
 unfold CV at h⊢
 grind
theorem bU{lo hi:Option AV}{a:Bool}(h:CB P H t x lo hi a K):∃v,CB P H t x lo hi a (fun y=>y=v)∧K v:=by
 unfold CB at h⊢
 grind
theorem eH(h:Cd P H t x K):∃v,Cd P H t x (fun y=>y=v)∧K v:=by
 unfold Cd at h⊢
 grind
theorem ct{ps:List (Nat×AV)}(h:Df P t ps K):∃v,Df P t ps (fun y=>y=v)∧K v:=by
 unfold Df at h⊢
 grind
theorem gn{op:Op}(g:∀o t x y u,op=.binOp o t x y u→Fw y=false)(h:AI P H op ρ K):∃v,AI P H op ρ (fun y=>y=v)∧K v:=by
 cases op<;>simp only[AI]at h⊢<;>try exact h.elim
 case move x=>exact⟨_,rfl,h⟩
 case assign x=>exact⟨_,rfl,h⟩
 case pick c a b=>
  split at h
  ·grind
  ·grind
 case load=>exact dK h
 case fieldAddr=>exact ac h
 case field=>exact cT h
 case indexAddr=>exact ag h
 case index=>exact cS h
 case extract=>
  split at h
  ·grind
  ·grind
 case binOp o t x y u=>
  rw[g _ _ _ _ _ rfl]at h⊢
  exact eI h
 case unOp=>exact gD h
 case convert=>exact dz h
 case nilCheck=>
  unfold F0 at h⊢
  split at h
  ·grind
  ·grind
  ·grind
 case makeFunc=>exact⟨_,rfl,h⟩
 case makeInterface=>
  obtain⟨d,h⟩:=h
  repeat' split at h
  all_goals first|exact h.elim|exact⟨_,⟨d,rfl⟩,h⟩
 case typeAssert=>
  obtain⟨d,h⟩:=h
  repeat' split at h
  all_goals first|exact h.elim|exact⟨_,⟨d,h.1,h.2.1,rfl⟩,h.2.2⟩|exact⟨_,⟨d,rfl⟩,h⟩
 case slice=>exact bU h
 case build=>exact ct h
 case lookup=>exact dY h
 case call c=>
  split at h
  ·obtain⟨v,e,f⟩:=eH h.2;exact⟨v,⟨h.1,e⟩,f⟩
  ·split at h
   ·unfold Cw at h⊢
    grind
   ·unfold Ed at h⊢
    grind
   grind
  ·grind
theorem Tk{op:Op}(e:∀o t x y u,op=.binOp o t x y u→Fw y=false){v:AV}(d:K v)(h:AI P H op ρ (fun y=>y=v)):AI P H op ρ K:=by
 have:(fun y=>y=v)=(fun y=>y=v∧K v):=by funext y;simp[d]
 rw[this]at h
 clear this d
 cases op<;>simp only[AI]at h⊢<;>try exact h.elim
 case move x=>exact h.1▸h.2
 case assign x=>exact h.1▸h.2
 case pick c a b=>
  split at h
  ·grind
  ·grind
 case load t x=>
  unfold CC at h⊢
  split at h
  ·grind
  ·grind
  ·grind
 case fieldAddr=>
  unfold CM at h⊢
  split at h
  ·grind
  ·grind
  ·grind
 case field=>
  unfold CS at h⊢
  split at h
  ·split at h
   ·grind
   grind
  ·grind
 case indexAddr=>
  unfold Cb at h⊢
  split at h
  ·grind
  ·grind
  ·grind
  ·grind
  ·grind
 case index=>
  unfold De at h⊢
  split at h
  ·grind
  ·grind
 case makeInterface=>
  refine⟨h.1,?_⟩
  replace h:=h.2
  repeat' split at h
  all_goals first|exact h.elim|exact h.1▸h.2
 case typeAssert=>
  refine⟨h.1,?_⟩
  replace h:=h.2
  repeat' split at h
  all_goals first|exact h.elim|exact⟨h.1,h.2.1,h.2.2.1▸h.2.2.2⟩|exact h.1▸h.2
 case extract=>
  split at h
  ·grind
  ·grind
 case binOp o t x y u=>
  rw[e _ _ _ _ _ rfl]at h⊢
  unfold BB at h⊢
  split at h
  ·exact⟨h.1,SV (fun y (hy:y=v∧K v)=>hy.1▸hy.2) h.2⟩
  ·exact SJ (fun y (hy:y=v∧K v)=>hy.1▸hy.2) h
  ·grind
  ·unfold Ec at h⊢
   split at h
   ·split at h
    ·grind
    grind
   grind
  ·cases h.1
  ·grind
 case unOp=>
  unfold CJ at h⊢
  split at h<;>grind
 case nilCheck=>
  unfold F0 at h⊢
  split at h
  ·grind
  ·grind
  ·grind
 case convert=>
  unfold CV at h⊢
  split at h
  ·grind
  ·grind
  ·grind
 case makeFunc=>exact h.1▸h.2
 case slice=>
  unfold CB at h⊢
  split at h
  ·grind
  ·grind
  ·grind
  ·grind
 case build=>
  unfold Df at h⊢
  split at h
  ·grind
  ·grind
 case lookup=>exact SF (fun y (hy:y=v∧K v)=>hy.1▸hy.2) h
 case call c=>
  split at h
  ·refine⟨h.1,?_⟩
   replace h:=h.2
   unfold Cd at h⊢
   grind
  ·split at h
   ·unfold Cw at h⊢
    grind
   ·unfold Ed at h⊢
    grind
   grind
  ·grind
theorem OJ{o:Oper}(h:BM o=true)(a:∀t len ps,o.op=.buildSlice t (len+1) ps→False):Bl o=true:=by
 unfold BM at h
 rw[YD]at h
 rcases h with h|h
 ·exact h
 ·exfalso
  unfold PM at h
  split at h
  ·rename_i e;exact a _ _ _ e
  ·simp at h
theorem Ow{o:Oper}(a:BM o=true):∀b t x y u,o.op=.binOp b t x y u→Fw y=false:=by
 intro b t x y u h
 simp only[BM,PM,Bl,h,Ke,Nd,Yc,Y3]at a
 exact a.2
theorem Tv{o:Oper}{v:AV}(h:∀x∈o.op.operands,ρ x=ρ' x)(a:qV P l H o ρ v):qV P l H o ρ' v:=by
 obtain⟨j,op,type,pos,after,guard⟩:=o
 have arr:∀e:Array Operand,(∀x∈e,ρ x=ρ' x)→e.toList.map ρ=e.toList.map ρ':=fun e i=>Y1 fun x hx=>i x (by simpa using hx)
 cases op<;>simp only[Op.operands]at h<;>simp only[qV,AI]at a⊢<;>try exact a
 case call c=>
  have i:c.args.toList.map ρ=c.args.toList.map ρ':=arr _ fun x hx=>h x (by simp[Call.operands,hx])
  cases g:c.callee with
  |value f=>
   have w:ρ f=ρ' f:=h f (by simp[Call.operands,g])
   grind
  |invoke r m=>simp only[g]at a
  |builtin b=>
   simp only[g]at a⊢
   split at a
   ·rename_i x t u k s
    rw[←h x (by simp[Call.operands,g,M9 k])]
    exact a
   ·grind
   grind
 case build t ps=>
  have:(ps.toList.map fun p=>(p.1,ρ p.2))=ps.toList.map fun p=>(p.1,ρ' p.2):=Y1 fun p q=>by
   grind
  rw[←this];exact a
 case buildSlice t n ps=>
  cases n with
  |zero=>exact a
  |succ n=>
   have:(ps.toList.map fun p=>(p.1,ρ p.2))=ps.toList.map fun p=>(p.1,ρ' p.2):=Y1 fun p q=>by
    grind
   simp only at a⊢
   rw[←this];exact a
 case makeFunc fn first d=>
  rw[←arr first fun x hx=>h x (by simp[hx]),←arr d fun x hx=>h x (by simp[hx])];exact a
 case slice t x lo hi y=>
  rw[←h x (by simp),show lo.map ρ'=lo.map ρ from by cases lo<;>simp_all,show hi.map ρ'=hi.map ρ from by cases hi<;>simp_all];exact a
 all_goals(first|(simp_all;done))
theorem TD{o:Oper}{s:Nat→AV}{K:St→Prop}(a:BM o=true)(h:Dl P l n o K ⟨s,H⟩):∃d v,o.dst=some d∧d<n∧qV P l H o (ev s) v∧K ⟨upd s d v,H⟩:=by
 have k:∃d,o.dst=some d:=by
  have:o.dst.isSome=true:=by
   unfold BM Bl at a
   rw[YD,Yc,Yc]at a
   rcases a with h|h
   ·exact h.1
   ·exact h.1
  exact YM.1 this
 obtain⟨d,k⟩:=k
 have plain:AI P H o.op (ev s) (Bv n o.dst K ⟨s,H⟩)→(∀v,AI P H o.op (ev s) (fun y=>y=v)→qV P l H o (ev s) v)→∃d v,o.dst=some d∧d<n∧qV P l H o (ev s) v∧K ⟨upd s d v,H⟩:=fun h m=>by
  obtain⟨v,p,b⟩:=gn (Ow a) h
  rw[k]at b
  exact⟨d,v,k,b.1,m v p,b.2⟩
 unfold Dl at h
 split at h
 ·rename_i x
  obtain⟨v,p,b⟩:=h
  rw[k]at b
  refine⟨d,v,k,b.1,?_,b.2⟩
  unfold qV
  rw[x]
  exact p
 ·rename_i c i
  replace a:Bl o=true:=OJ a fun t n ps e=>by rw[i]at e;cases e
  split at h
  ·rename_i f u
   simp only[]at h
   split at h
   ·rename_i g first z A
    obtain⟨r,p,b⟩:=h
    rw[k]at b
    refine⟨d,r,k,b.1,?_,b.2⟩
    simp only[qV,i,u,A]
    exact p
   ·exact h.elim
  ·rename_i u
   refine plain ?_ ?_
   ·unfold AX at h
    simp only[i]at h
    simp only[Bl,i,Yc]at a
    split at h
    ·rename_i f w;exact absurd w (u f)
    ·rename_i q;rw[q]at a;simp at a
    ·rw[i];exact h
   ·intro v m
    unfold qV
    rw[i]at m⊢
    cases j:c.callee with
    |value f=>exact absurd j (u f)
    |_=>simpa[j]using m
 ·rename_i q i
  replace a:Bl o=true:=OJ a fun t n ps e=>q _ _ _ e
  refine plain ?_ ?_
  ·unfold AX at h
   split at h
   ·rename_i he;simp[Bl,he]at a
   ·rename_i he;simp[Bl,he]at a
   ·rename_i he;simp[Bl,he]at a
   ·rename_i he;simp[Bl,he]at a
   ·rename_i he;simp[Bl,he]at a
   ·rename_i c he;exact absurd he (i c)
   ·exact h
  ·intro v m
   unfold qV
   split
   ·rename_i he;exact absurd he (q _ _ _)
   ·rename_i c he;exact absurd he (i c)
   ·exact m
theorem jm{o:Oper}{s:Nat→AV}{v:AV}{d:Nat}(q:BM o=true)(b:o.dst=some d)(a:d<n)(h:qV P l H o (ev s) v):Bs P l n B o (fun E=>E=⟨upd s d v,H⟩) ⟨s,H⟩:=by
 unfold qV at h
 split at h
 ·rename_i t len parts k
  obtain⟨e,sz,z,G,i,j,u,w,x,y,A,rfl⟩:=h
  exact R4 k b i j u w x y A a rfl
 ·rename_i c C
  split at h
  ·rename_i f p
   split at h
   ·rename_i g first m D
    refine S7 C p D (h.mono fun r F ⟨i,j⟩=>?_)
    subst i;subst j
    rw[b]
    exact⟨a,rfl⟩
   grind
  ·rename_i p
   exact K7 (Tk (Ow q) (by rw[b];exact⟨a,rfl⟩) h)
 ·exact K7 (Tk (Ow q) (by rw[b];exact⟨a,rfl⟩) h)
end
section
variable {P:Program} {l n:Nat} {B:Base} {H:Hp} {ops:Array Oper} {md:Region.Mode} {Q:(Nat→AV)→Prop}
def YA(P:Program)(l:Nat)(H:Hp)(ops:Array Oper)(o:Oper)(s:Nat→AV)(v:AV):Prop:=
 match o.guard with
 |none=>qV P l H o (ev s) v
 |some (i,b)=>match E0 s (ops.toList.map (·.dst)) i b with
  |some t=>(t=true→qV P l H o (ev s) v)∧(t=false→v=.tup [])
  |none=>False
theorem UX{o:Oper}{s:Nat→AV}{v u:AV}{d:Nat}(k:d∉o.looksAt ops)(h:YA P l H ops o (upd s d u) v):YA P l H ops o s v:=by
 have f:∀x∈o.op.operands,ev (upd s d u) x=ev s x:=fun x hx=>by
  cases x with
  |tmp t=>
   have c:t≠d:=fun e=>k (by
    subst e
    exact Gj _ (List.mem_filterMap.2 ⟨.tmp t,by simpa using hx,rfl⟩))
   simp[ev,upd,c]
  |_=>rfl
 unfold YA at*
 cases j:o.guard with
 |none=>simp only[j]at h⊢;exact Tv f h
 |some m=>
  obtain⟨i,b⟩:=m
  simp only[j]at h⊢
  have g:E0 (upd s d u) (ops.toList.map (·.dst)) i b=E0 s (ops.toList.map (·.dst)) i b:=by
   unfold E0
   simp only[Yt,Yv]
   cases n:ops[i]? with
   |none=>rfl
   |some p=>
    cases a:p.dst with
    |none=>simp[a]
    |some t=>
     have c:t≠d:=fun e=>k (by subst e;simp[Oper.looksAt,j,n,a])
     simp[a,upd,c]
  rw[g]at h
  split at h
  ·rename_i t q
   exact⟨fun e=>Tv f (h.1 e),h.2⟩
  ·exact h
theorem hZ{o:Oper}{s:Nat→AV}{v u:AV}{d:Nat}(a:d∉o.looksAt ops)(h:YA P l H ops o s v):YA P l H ops o (upd s d u) v:=by
 refine UX (d:=d) (u:=s d) a ?_
 have:upd (upd s d u) d (s d)=s:=by funext j;unfold upd;split<;>simp_all
 grind
theorem fu{s:Nat→AV}{d e:Nat}{u v:AV}(h:d≠e):upd (upd s d u) e v=upd (upd s e v) d u:=by
 funext j
 unfold upd
 grind
end
def H3(P:Program)(t:TypeId)(i:Nat):Option (Nat×Nat×Bool):=
 match P.underlying t with
 |some (.struct a)=>(a[i]?).bind fun f=>(B2 P f.type).map fun b=>(f.offset,P.cellsOf f.type,b)
 |_=>none
def Jy(o:Option (Nat×Nat×Bool))(x:AV)(K:AV→Prop):Prop:=
 match o,x with
 |some (o,n,true),.agg cs=>n≠0∧K (.agg ((cs.drop o).take n))
 |some (o,_,false),.agg cs=>(match cs[o]? with|some c=>K c|none=>False)
 |_,_=>False
theorem dc{P:Program}{t:TypeId}{i:Nat}{x:AV}{K:AV→Prop}:CS P t i x K=Jy (H3 P t i) x K:=by
 unfold CS H3
 cases x with
 |agg cs=>
  cases j:P.underlying t with
  |none=>rfl
  |some d=>
   cases d with
   |struct a=>
    simp only
    cases g:a[i]? with
    |none=>rfl
    |some f=>
     simp only[Yg]
     cases c:B2 P f.type with
     |none=>rfl
     |some b=>cases b<;>rfl
   |_=>rfl
 |_=>
  have e:∀(o:Option (Nat×Nat×Bool)) (y:AV),(∀cs,y≠.agg cs)→Jy o y K=False:=fun o y h=>by
   unfold Jy
   grind
  grind
structure fins (P:Program) (l:Nat) (H:Hp) (rs:List ResultVar) (Post:AV→Hp→Prop) (e:Exit) (σ:St):Prop where
 he:e=.normal∨e=.ret
 hy:CE P σ rs (fun xs=>∃y,Fz σ.H l (B6 xs) y∧Post y (E1 l σ.H H))
inductive Fit:D→Prop
 |int (k:IntKind) (n:Int):Fit (.int k n)
 |bool (b:Bool):Fit (.bool b)
 |str (s:ByteArray) (h:s.size<2147483648):Fit (.str s)
 |list (es:List (List D)) (hl:es.length<2147483648) (h:∀e∈es,∀x∈e,Fit x):Fit (.list es)
def GV(l:List D):Prop:=∀d∈l,Fit d
theorem Fit.len{α:Type}{e:α→List D}{xs:List α}(h:Fit (.list (xs.map e))):xs.length<2147483648:=by
 cases h with|list _ hl h=>simpa using hl
theorem Fit.mem{α:Type}{e:α→List D}{xs:List α}(h:Fit (.list (xs.map e))){x:α}(hx:x∈xs):GV (e x):=by
 cases h with|list _ hl h=>exact h _ (Nj hx)
theorem Fit.el{α:Type}{e:α→List D}{xs:List α}(h:Fit (.list (xs.map e))){i:Nat}{x:α}(hx:xs[i]?=some x):GV (e x):=h.mem (Yi hx)
theorem GV.at{l:List D}(h:GV l)(i:Nat){d:D}(hi:l[i]?=some d):Fit d:=h d (Yi hi)
theorem GV.sub{l:List D}(h:GV l)(i n:Nat){m:List D}(hi:(l.drop i).take n=m):GV m:=by
 subst hi
 exact fun d a=>h d (J5 (List.mem_of_mem_take a))
def nrm:AV→AV
 |.e0=>.d (.list [])
 |.agg xs=>.agg (xs.map fun x=>match x with|.e0=>.d (.list [])|x=>x)
 |x=>x
section
variable {P:Program} {l n:Nat} {B:Base} {H H':Hp} {K:St→Prop} {σ σ':St} {Q:Exit→St→Prop} {s:Nat→AV} {ds:List (Option Nat)} {d:Option Nat} {op:Op} {ty:TypeId} {ps:String} {af:Array Edge} {rest:List Oper}
 {g:Option (Nat×Bool)} {x y:Operand} {t:TypeId}
theorem ON{a b:Code}(h:A5 P l n B a (WA (A5 P l n B b Q) Q) σ):A5 P l n B (.seq a b) Q σ:=gJ fun _ c=>Ey h fun e σ' h=>by
 cases e<;>first|exact c σ' h|exact h
theorem Hs{a:Int}{i:Nat}(h:a=(i:Int))(hi:i<9223372036854775808):IntKind.wrap .i64 a=(i:Int):=by
 subst h
 exact IntWalk.i64_in _ ⟨by omega,by omega⟩
theorem eE{f:FuncId}{fn:Func}(g:List ResultVar){c:Code}{xs:List AV}{a:AV→Hp→Prop}(j:P.funcs[f]?=some fn)(i:fn.body=some c)(b:(fn.name== "runtime.NumGoroutine")=false)
  (k:fn.ntmps=n) (m:fn.results.toList=g) (hx:xs.length≤n) (h:∀B:Base,A5 P l n B c (fins P l H g a) ⟨args xs,BS l H⟩):Zbb P f l xs H a:=by
 refine dC j i b k hx fun B=>Ey (h B) fun e σ d=>?_
 unfold Ze
 rw[m]
 exact⟨d.he,d.hy⟩
theorem Fz.data{xs:List D}:Fz H' l (.agg (xs.map .d)) (.agg (xs.map .d)):=
 .agg _ _ rfl fun i x y hx hy=>by
  rw[hx]at hy;cases hy
  rw[Yt]at hx
  cases hi:xs[i]? with
  |none=>rw[hi]at hx;cases hx
  |some d=>rw[hi]at hx;cases hx;exact .keep _ rfl
theorem Fz.pure{xs:List AV}{ds:List D}(h:B0 xs=some ds):Fz H' l (.agg xs) (.agg (ds.map .d)):=
 .agg _ _ (by rw[YF];exact Ov h) fun i x y hx hy=>by
  rw[Yt]at hy
  cases hi:ds[i]? with
  |none=>rw[hi]at hy;cases hy
  |some d=>
   rw[hi]at hy;cases hy
   have:=Tq h hx hi
   cases x<;>simp only[DI]at this<;>cases this
   ·exact .keep _ rfl
   ·exact .e0
theorem Fz.d'{x:AV}{y:D}(h:x=.d y):Fz H' l x (.d y):=by subst h;exact .keep _ rfl
theorem Fz.two{x y x' e:AV}(hx:Fz H' l x x')(hy:Fz H' l y e):Fz H' l (B6 [x,y]) (.tup [x',e]):=
 .tup _ _ rfl fun i a b c d=>by
  match i with
  |0=>cases c;cases d;exact hx
  |1=>cases c;cases d;exact hy
  |i+2=>simp at c
theorem Fz.one{x x':AV}(hx:Fz H' l x x'):Fz H' l (B6 [x]) x':=hx
theorem RepA.nrm{S:Nat→Prop}{m:Mu}{w:World}{x:AV}{v:Value}(h:RepA w S H m l x v):RepA w S H m l (nrm x) v:=by
 cases x with
 |e0=>exact h.e0_d
 |agg xs=>
  cases h with
  |agg _ vs hx a h=>
   refine .agg _ _ (by simpa using hx) a (fun i y v hy b=>?_)
   rw[Yt]at hy
   cases hi:xs[i]? with
   |none=>rw[hi]at hy;cases hy
   |some x=>
    rw[hi]at hy
    simp only[YQ,Yh]at hy
    subst hy
    have:=h i x v hi b
    split
    ·exact this.e0_d
    grind
 |_=>exact h
theorem Zbb.nrm{f:FuncId}{xs:List AV}{a:AV→Hp→Prop}(h:Zbb P f l (xs.map nrm) H a):Zbb P f l xs H a:=
 ⟨h.1,fun m S w vs c b=>h.2 m S w vs c ⟨by simpa using b.1,fun i x v hx d=>by
  rw[Yt]at hx
  cases hi:xs[i]? with
  |none=>rw[hi]at hx;cases hx
  |some y=>
   rw[hi]at hx
   simp only[YQ,Yh]at hx
   subst hx
   exact(b.2 i y v hi d).nrm⟩⟩
end
def Jb:List Operand→List Nat
 |[]=>[]
 |.tmp t::r=>t::Jb r
 |_::r=>Jb r
def HQ:List (Option Nat)→Nat→Option Nat
 |[],_=>none
 |x::_,0=>x
 |_::r,i+1=>HQ r i
def Dg(ds:List (Option Nat))(o:Oper):List Nat:=
 Jb o.op.operands.toList++match o.guard with
  |some (g,_)=>(match HQ ds g with|some d=>[d]|none=>[])
  |none=>[]
def Dh:List (Nat×Nat)→Nat→Option Nat
 |[],_=>none
 |(d,k)::r,t=>match Nat.beq d t with|true=>some k|false=>Dh r t
def Bg(o:Oper)(i:Nat):Bool:=o.after.toList.any fun e=>Region.binds .any e&&Nat.beq e.on i
def clear(o:Oper)(d:Nat):List (Nat×Nat)→Bool
 |[]=>true
 |(t,i)::r=>(match Nat.beq t d with|true=>Bg o i|false=>true)&&clear o d r
theorem S6{o:Oper}{d i:Nat}:∀{l:List (Nat×Nat)},clear o d l=true→(d,i)∈l→Bg o i=true
 |[],_,h=>by cases h
 |(t,j)::r,a,h=>by
  simp only[clear,Yc]at a
  rcases YJ.1 h with h|h
  ·cases h
   have:=a.1
   rw[Ki]at this
   exact this
  ·exact S6 a.2 h
def HM(ds:List (Option Nat)):Nat→List (Nat×Nat)→List (Nat×Nat)→List Oper→Bool
 |_,_,_,[]=>true
 |k,seen,looked,o::r=>
  (o.after.toList.all fun e=>!Region.binds .any e||Nat.ble (e.on+1) k)&&
  ((Dg ds o).all fun t=>match Dh seen t with|some i=>Bg o i|none=>true)&&
  match o.dst with
  |some d=>(Dh seen d).isNone&&clear o d looked&&HM ds (k+1) ((d,k)::seen) ((Dg ds o).map (·,k)++looked) r
  |none=>HM ds (k+1) seen ((Dg ds o).map (·,k)++looked) r
def LH:List Oper→Bool
 |[]=>true
 |o::r=>(match o.op with|.select _ _=>false|_=>true)&&LH r
def LS(ops:List Oper):Bool:=LH ops&&HM (ops.map (·.dst)) 0 [] [] ops
theorem dq(xs:List Operand):Jb xs=xs.filterMap fun|.tmp t=>some t|_=>none:=by
 induction xs with
 |nil=>rfl
 |cons x xs a=>cases x<;>simp[Jb,a]
theorem T2:∀(ds:List (Option Nat)) (i:Nat),HQ ds i=(ds[i]?).join
 |[],i=>by simp[HQ]
 |x::r,0=>by simp[HQ]
 |x::r,i+1=>by simp[HQ,T2 r i]
theorem S9(ops:List Oper)(o:Oper):Dg (ops.map (·.dst)) o=o.looksAt ops.toArray:=by
 unfold Dg Oper.looksAt
 rw[dq]
 congr 1
 cases d:o.guard with
 |none=>rfl
 |some a=>
  obtain⟨g,b⟩:=a
  simp only
  rw[T2,Yt]
  simp only[Q9]
  cases ops[g]? with
  |none=>rfl
  |some c=>simp only[YQ,Option.join_some,Yg];cases c.dst<;>rfl
structure FInv (ds:List (Option Nat)) (pre:List Oper) (seen:List (Nat×Nat)) (looked:List (Nat×Nat)):Prop where
 s1:∀d i,Dh seen d=some i→∃o,pre[i]?=some o∧o.dst=some d
 s2:∀(i:Nat) (o:Oper) (d:Nat),pre[i]?=some o→o.dst=some d→Dh seen d=some i
 lo:∀(i:Nat) (o:Oper),pre[i]?=some o→∀t∈Dg ds o,(t,i)∈looked
def Lc(ds:List (Option Nat))(x y:Oper):Prop:=(∀d,x.dst=some d→d∉Dg ds y∧y.dst≠some d)∧(∀d,y.dst=some d→d∉Dg ds x)
theorem Sq(ds:List (Option Nat)):∀(q pre:List Oper) (seen looked:List (Nat×Nat)),FInv ds pre seen looked→HM ds pre.length seen looked q=true→
  ∀(j:Nat) (n:Oper),q[j]?=some n→(∀e∈n.after,Region.binds .any e=true→e.on<pre.length+j)∧
   ∀(i:Nat) (m:Oper),i<pre.length+j→(pre++q)[i]?=some m→Bg n i=true∨Lc ds m n
 |[],pre,seen,looked,u,h,j,n,A=>by simp at A
 |o::r,pre,seen,looked,u,h,j,n,A=>by
  simp only[HM,Yc]at h
  obtain⟨⟨G,H⟩,s⟩:=h
  cases j with
  |zero=>
   simp only[YW,Yh]at A
   subst A
   refine⟨fun e he D=>?_,fun i m hi f=>?_⟩
   ·have:=Yo.1 G e (by simpa using he)
    simp only[D,YU,Iw]at this
    have:=Yd this
    omega
   ·rw[Yn (by omega)]at f
    by_cases z:Bg o i=true
    ·exact .inl z
    ·right
     refine⟨fun d v=>⟨fun hm=>?_,fun g=>?_⟩,fun d v hm=>?_⟩
     ·have:=Yo.1 H d hm
      rw[u.s2 i m d f v]at this
      exact z this
     ·rw[g]at s
      simp only[Yc]at s
      have:=s.1.1
      rw[u.s2 i m d f v]at this
      cases this
     ·rw[v]at s
      simp only[Yc]at s
      exact z (S6 s.1.2 (u.lo i m f d hm))
  |succ j=>
   simp only[Hd]at A
   have p:∀(c:List (Nat×Nat)),(∀d i,Dh c d=some i→∃l,(pre++[o])[i]?=some l∧l.dst=some d)→(∀(i:Nat) (l:Oper) (d:Nat),(pre++[o])[i]?=some l→l.dst=some d→Dh c d=some i)→
     FInv ds (pre++[o]) c ((Dg ds o).map (·,pre.length)++looked):=fun c a b=>⟨a,b,fun i l f t F=>by
    rcases It i pre.length with k|heq|B
    ·rw[Yn k]at f;exact List.mem_append_right _ (u.lo i l f t F)
    ·subst heq;simp at f;subst f;exact Gj _ (YO.2 ⟨t,F,rfl⟩)
    ·rw[YG (by simp;omega)]at f;cases f⟩
   have fin:∀c,FInv ds (pre++[o]) c ((Dg ds o).map (·,pre.length)++looked)→HM ds (pre.length+1) c ((Dg ds o).map (·,pre.length)++looked) r=true→_:=fun c C J=>
    Sq ds r (pre++[o]) c ((Dg ds o).map (·,pre.length)++looked) C (by simpa using J) j n A
   have conv:(∀e∈n.after,Region.binds .any e=true→e.on<(pre++[o]).length+j)∧(∀(i:Nat) (m:Oper),i<(pre++[o]).length+j→(pre++[o]++r)[i]?=some m→Bg n i=true∨Lc ds m n)→
     (∀e∈n.after,Region.binds .any e=true→e.on<pre.length+(j+1))∧(∀(i:Nat) (m:Oper),i<pre.length+(j+1)→(pre++o::r)[i]?=some m→Bg n i=true∨Lc ds m n):=by
    rintro⟨a,b⟩
    simp only[YC,Y7,Fl,Ep,J9,Et]at a b
    exact⟨fun e he D=>by have:=a e he D;omega,fun i m hi f=>b i m (by omega) f⟩
   split at s
   ·rename_i d v
    simp only[Yc]at s
    obtain⟨⟨E,K⟩,I⟩:=s
    have y:Dh seen d=none:=by cases w:Dh seen d with|none=>rfl|some i=>rw[w]at E;cases E
    refine conv (fin _ (p ((d,pre.length)::seen) (fun d' i w=>?_) (fun i l d' f g=>?_)) I)
    ·simp only[Dh]at w
     split at w
     ·rename_i he;cases w;rw[←Ya he];exact⟨o,by simp,v⟩
     ·obtain⟨l,a,b⟩:=u.s1 d' i w
      refine⟨l,?_,b⟩
      rw[Yn];exact a
      rcases Yw i pre.length with k|x
      ·exact k
      ·rw[YG x]at a;cases a
    ·simp only[Dh]
     rcases It i pre.length with k|heq|B
     ·rw[Yn k]at f
      have:=u.s2 i l d' f g
      split
      ·rename_i he
       rw[←Ya he,y]at this;cases this
      ·exact this
     ·subst heq;simp at f;subst f;rw[v]at g;cases g;simp
     ·rw[YG (by simp;omega)]at f;cases f
   ·rename_i v
    refine conv (fin _ (p seen (fun d' i w=>?_) (fun i l d' f g=>?_)) s)
    ·obtain⟨l,a,b⟩:=u.s1 d' i w
     refine⟨l,?_,b⟩
     rw[Yn];exact a
     rcases Yw i pre.length with k|x
     ·exact k
     ·rw[YG x]at a;cases a
    ·rcases It i pre.length with k|heq|B
     ·rw[Yn k]at f;exact u.s2 i l d' f g
     ·subst heq;simp at f;subst f;rw[v]at g;cases g
     ·rw[YG (by simp;omega)]at f;cases f
theorem bC{ops:List Oper}{x y:Oper}(h:Lc (ops.map (·.dst)) x y):x.apart ops.toArray y=true:=by
 obtain⟨a,c⟩:=h
 rw[S9]at c
 have b:∀d,x.dst=some d→d∉y.looksAt ops.toArray∧y.dst≠some d:=fun d e=>by have:=a d e;rw[S9]at this;exact this
 unfold Oper.apart
 grind
theorem SA{ops:Array Oper}(l:∀(j:Nat) (b:Oper),ops[j]?=some b→∀e∈b.after,Region.binds .any e=true→e.on<j)
  (m:∀(i j:Nat) (n b:Oper),i<j→ops[i]?=some n→ops[j]?=some b→Bg b i=true∨n.apart ops b=true):
  ∀(fuel k:Nat) (listed:Array Bool),fuel+k=ops.size→listed.size=ops.size→(∀j,j<ops.size→listed[j]?=some (decide (j<k)))→Region.lexFrom .any ops fuel k listed=true
 |0,k,listed,p,hs,hl=>by
  simp only[Region.lexFrom]
  rw[List.isEmpty_iff,Region.ready,List.filter_eq_nil_iff]
  intro i hi
  have hi:=Kf.1 hi
  have:=hl i hi
  simp[Yp,this]
  omega
 |fuel+1,k,listed,p,hs,hl=>by
  have f:k<ops.size:=by omega
  have a:ops[k]?=some ops[k]:=Ym f
  simp only[Region.lexFrom,Yc]
  refine⟨⟨?_,?_⟩,SA l m fuel (k+1) _ (by omega) (by simp[hs]) (fun j c=>?_)⟩
  ·rw[List.contains_iff_mem]
   unfold Region.ready
   refine J1.2 ⟨Kf.2 f,?_⟩
   rw[Yc]
   refine⟨by simp[Yp,hl k f],?_⟩
   rw[a]
   simp only[YQ,Fk]
   rw[Array.all_eq_true_iff_forall_mem]
   intro e he
   by_cases o:Region.binds .any e=true
   ·have:=l k _ a e he o
    simp[Yp,hl e.on (by omega),this]
   grind
  ·unfold Region.free
   rw[a]
   simp only[Yo,Kf]
   intro j c
   rw[YD,YD]
   rcases It j k with g|heq|d
   ·left;right;simp[Yp,hl j c,g]
   ·grind
   ·right
    rw[Ym c]
    simp only
    rw[YD]
    rcases m k j _ _ d a (Ym c)with h|h
    ·left
     unfold Bg at h
     obtain⟨e,he,h⟩:=YX.1 h
     rw[←Array.any_toList]
     exact YX.2 ⟨e,he,by simpa using h⟩
    grind
  grind
theorem Sd{ops:List Oper}(h:LS ops=true):Region.lexB .any ops.toArray=true:=by
 unfold LS at h
 rw[Yc]at h
 have g:∀(l:List Oper),LH l=true→l.all (fun o=>match o.op with|.select ..=>false|_=>true)=true:=fun l=>by
  induction l with
  |nil=>intro _;rfl
  |cons o l p=>
   intro m
   simp only[LH,Yc]at m
   grind
 have key:=Sq (ops.map (·.dst)) ops [] [] [] ⟨fun d i k=>by simp[Dh]at k,fun i o d e=>by simp at e,fun i o e=>by simp at e⟩ h.2
 simp only[Fl,YL,Et]at key
 unfold Region.lexB
 rw[Yc]
 refine⟨?_,SA (fun j f b=>(key j f (by simpa using b)).1) (fun i j n f c hi b=>?_) _ 0 _ rfl (by simp) (fun j b=>by simp at b⊢;simp[b])⟩
 ·unfold Region.noSelect
  grind
 ·rcases(key j f (by simpa using b)).2 i n c (by simpa using hi)with a|a
  ·grind
  ·exact .inr (bC a)
structure TI where
 agg:Bool:=false
 kin:Nat:=0
 siz:Nat:=1
 elm:Option (Nat×Nat):=none
 fld:List (Nat×Nat×Bool):=[]
 zer:Option (List AV):=none
 eqt:Option (List Nat):=none
 str:Bool:=false
 ik:Option IntKind:=none
 byt:Option Nat:=none
 mp:Option (Bool×List D):=none
 arr:Option (Nat×Nat):=none
def AV.flat:AV→Bool
 |.d _|.e0|.p _|.iptr _ _=>true
 |_=>false
structure TIok (P:Program) (t:TypeId) (i:TI):Prop where
 agg:B2 P t=some i.agg
 kin:kin P t=i.kin
 siz:P.cellsOf t=i.siz
 elm:∀e,i.elm=some e→Go.Eng.elm P t=some e
 fld:∀(j:Nat) (x:Nat×Nat×Bool),i.fld[j]?=some x→Go.Eng.fld P t j=some (x.1,x.2.1)∧H3 P t j=some x
 zer:∀z,i.zer=some z→Go.Eng.zer P t=some z
 eqt:∀z,i.eqt=some z→Ia P t=some z
 str:i.str=true→F2 P t=true
 ik:∀z,i.ik=some z→P.underlying t=some (.int z)
 byt:∀z,i.byt=some z→P.bytesOf t≤z∧P.bytesOf t≠0
 flt:∀z,i.zer=some z→z.all AV.flat=true
 mp:∀z,i.mp=some z→H1 P t=some z
 arr:Dn P t=i.arr
def AL(P:Program)(T:Nat→Option TI):Prop:=∀t i,T t=some i→TIok P t i
inductive AT where
 |nil
 |go (r:AT)
 |av (x:AV) (r:AT)
 |cs (c:List AV) (r:AT)
 |ds (e:List D) (r:AT)
 |num (n:Int) (r:AT)
 |nat (n:Nat) (r:AT)
 |call (x:AV) (ks:List Aa) (r:AT)
 |callH (x:AV) (ks:List Aa) (hb:List (Aa×List AV)) (r:AT)
 |br (a b:AT)
 |frz (d:Nat) (js:List (Nat×List (List D))) (cs:List (Aa×Nat×List (List D))) (r:AT)
 |adc (k:Aa) (i d:Nat) (e:TypeId) (sz:Nat) (r:AT)
 |mv (d j:Nat) (r:AT)
 |ads (j d:Nat) (e:TypeId) (sz:Nat) (r:AT)
 |trim (k:Aa) (c:List AV) (r:AT)
 |reb (j d m:Nat) (c:List AV) (r:AT)
 |sep (r:AT)
 |hard (x:AV) (ks:List Aa) (hb:List (Aa×Blk)) (fr:List Aa) (r:AT)
 |ents (es:List (List D)) (r:AT)
 |all (a:AT) (f:Nat→AT)
 |fzm (d:Nat) (js:List Nat) (r:AT)
 |fzb (d:Nat) (js:List Nat) (r:AT)
 |rnm (d d' e i:Nat) (r:AT)
 |mvc (d q e i:Nat) (r:AT)
 |one (v:Bool) (r:AT)
structure Ren where
 κ:Aa→Aa
 γ:Aa→Nat
 θ:Nat→AV
 H0:Hp
 no:Aa→Prop
mutual
def ren(r:Ren):AV→AV
 |.ref k g off n=>.ref (r.κ k) (r.γ k+g) off n
 |.ptr k g off=>.ptr (r.κ k) (r.γ k+g) off
 |.mp k g=>.mp (r.κ k) (r.γ k+g)
 |.fn f xs ys=>match f with
  |.yield i=>r.θ i
  |f=>.fn f (Ae r xs) (Ae r ys)
 |.agg xs=>.agg (Ae r xs)
 |.tup xs=>.tup (Ae r xs)
 |.top=>.top
 |.d x=>.d x
 |.e0=>.e0
 |.p x=>.p x
 |.iptr cs off=>.iptr cs off
 |.ifc t ds a=>.ifc t ds a
def Ae(r:Ren):List AV→List AV
 |[]=>[]
 |x::xs=>ren r x::Ae r xs
end
def An(r:Ren)(k:Aa)(b:Blk):Blk:=⟨r.γ k+b.g,true,b.e,b.sz,Ae r b.cells⟩
theorem Dc{r:Ren}(xs:List AV):Ae r xs=xs.map (ren r):=by
 induction xs with
 |nil=>simp[Ae]
 |cons x xs a=>simp[Ae,a]
theorem Bx{r:Ren}(xs:List AV):(Ae r xs).length=xs.length:=by rw[Dc,YF]
theorem DZ{r:Ren}(xs ys:List AV):Ae r (xs++ys)=Ae r xs++Ae r ys:=by simp[Dc]
theorem CL{r:Ren}(xs:List AV)(n:Nat):(Ae r xs).drop n=Ae r (xs.drop n):=by simp[Dc]
theorem Da{r:Ren}(xs:List AV)(n:Nat):(Ae r xs).take n=Ae r (xs.take n):=by simp[Dc]
theorem ED{r:Ren}(xs:List AV)(n:Nat):(Ae r xs)[n]?=(xs[n]?).map (ren r):=by simp[Dc]
theorem Fv{r:Ren}(xs:List D):Ae r (xs.map .d)=xs.map .d:=by
 induction xs with
 |nil=>simp[Ae]
 |cons x xs a=>simp only[Y6,Ae,ren,a]
theorem eA{r:Ren}{xs:List AV}(h:xs≠[]):Ae r xs≠[]:=by cases xs<;>simp_all[Ae]
def B7(r:Ren)(H a:Hp):Prop:=∀k,(H k).live=true→a (r.κ k)=An r k (H k)
def AS{α:Type}:List α→Nat→Option α
 |[],_=>none
 |x::_,0=>some x
 |_::xs,i+1=>AS xs i
theorem Bk{α:Type}:∀(xs:List α) (i:Nat),AS xs i=xs[i]?
 |[],i=>by simp[AS]
 |x::xs,0=>by simp[AS]
 |x::xs,i+1=>by simp[AS,Bk xs i]
def FH{α:Type}:Nat→List α→Option (List α)
 |0,_=>some []
 |n+1,x::xs=>match FH n xs with|some r=>some (x::r)|none=>none
 |_+1,[]=>none
theorem OE{α:Type}:∀(n:Nat) (xs r:List α),FH n xs=some r→xs.take n=r∧n≤xs.length
 |0,xs,r,h=>by simp only[FH,Yh]at h;subst h;simp
 |n+1,[],r,h=>by simp[FH]at h
 |n+1,x::xs,r,h=>by
  simp only[FH]at h
  split at h
  ·rename_i q a
   cases h
   obtain⟨b,c⟩:=OE n xs q a
   grind
  ·cases h
def A7(H:Hp)(k:Aa)(g:Nat):Bool:=Nat.beq g (H k).g&&(H k).live
theorem CA{H:Hp}{k:Aa}{g:Nat}(h:A7 H k g=true):g=(H k).g∧(H k).live=true:=by
 simp only[A7,Yc]at h
 exact⟨Ya h.1,h.2⟩
theorem B7.at{r:Ren}{H a:Hp}(h:B7 r H a){k:Aa}{g:Nat}(hl:A7 H k g=true):r.γ k+g=(a (r.κ k)).g∧(a (r.κ k)).live=true∧(a (r.κ k)).e=(H k).e∧(a (r.κ k)).sz=(H k).sz∧(a (r.κ k)).cells=Ae r (H k).cells:=by
 obtain⟨b,c⟩:=CA hl
 rw[h k c]
 subst b
 exact⟨rfl,rfl,rfl,rfl,rfl⟩
def AQ(g:Option Bool)(S:Prop):Prop:=
 match g with
 |none=>S
 |some b=>b=true→S
theorem AW{g:Option Bool}{S:Prop}(a:∀b,g=some b→b=true)(h:AQ g S):S:=by
 unfold AQ at h
 grind
def D0(cs:List AV)(off:Nat)(c:List AV):Prop:=(cs.drop off).take c.length=c
def FN(a:List (List D))(n:Int)(e:List D):Prop:=0≤n∧a[n.toNat]?=some e
def HY(n:Int)(len off sz o:Nat):Prop:=0≤n∧n<len∧(off+n.toNat)*sz=o
def ZB(s:ByteArray)(n b:Int):Prop:=0≤n∧∃x:UInt8,s.data.toList[n.toNat]?=some x∧b=x.toNat
def Br(k:IntKind)(a r:Int):Prop:=k.wrap a=r
def A0(a b:Int):Prop:=a=b
def JY(a b:Int):Prop:=a≠b
def JX(a b:Int):Prop:=a≤b
def X8(a b:ByteArray):Prop:=a.size+b.size≤9223372036854775807
def Ck(dflt:Nat)(o:Option AV)(l:Nat):Prop:=
 match o with
 |none=>l=dflt
 |some (.d (.int _ n))=>n=l
 |_=>False
def Du(l h n:Nat):Prop:=l≤h∧h≤n
def JZ(es:List (List D))(sz l h:Nat)(a:List (List D)):Prop:=(∀e,e∈es→e.length=sz)∧(es.drop l).take (h-l)=a
def M3(off l h o n:Nat):Prop:=off+l=o∧h-l=n
def PB(t:Bool)(a b:AV):AV:=
 match a,b with
 |.d (.bool x),.d (.bool y)=>.d (.bool (cond t x y))
 |a,b=>cond t a b
theorem fc(t:Bool)(a b:AV):PB t a b=if t then a else b:=by
 unfold PB
 grind
def HO(i:TI)(H:Hp)(x:AV)(g:Option Bool)(a:AT)(K:AV→AT→Prop):Prop:=
 match x with
 |.iptr cs off=>match i.agg with
  |true=>match Nat.ble 1 i.siz,FH i.siz (cs.drop off)with|true,some c=>K (.agg (c.map .d)) a|_,_=>False
  |false=>match AS cs off with|some c=>K (.d c) a|none=>False
 |.ptr k q off=>match A7 H k q with
  |true=>match a with
   |.go r=>(match i.agg with
    |true=>match Nat.ble 1 i.siz,FH i.siz ((H k).cells.drop off)with|true,some c=>K (.agg c) r|_,_=>False
    |false=>match AS (H k).cells off with|some c=>K c r|none=>False)
   |.cs c r=>(match i.agg with
    |true=>match Nat.ble 1 i.siz,Nat.beq c.length i.siz with|true,true=>AQ g (D0 (H k).cells off c)∧K (.agg c) r|_,_=>False
    |false=>match c with|[x]=>AQ g (D0 (H k).cells off [x])∧K x r|_=>False)
   |_=>False
  |false=>False
 |_=>False
def Ku(i:TI)(H:Hp)(f:Nat)(x:AV)(a:AT)(K:AV→AT→Prop):Prop:=
 match AS i.fld f with
 |some (o,n,_)=>match Nat.ble 1 n with
  |true=>(match x with
   |.iptr cs off=>K (.iptr cs (off+o)) a
   |.ptr k q off=>match A7 H k q with|true=>K (.ptr k q (off+o)) a|false=>False
   |_=>False)
  |false=>False
 |none=>False
def Lg(i:TI)(f:Nat)(x:AV)(a:AT)(K:AV→AT→Prop):Prop:=
 match AS i.fld f,x with
 |some (o,n,true),.agg cs=>(match Nat.ble 1 n with|true=>K (.agg ((cs.drop o).take n)) a|false=>False)
 |some (o,_,false),.agg cs=>(match AS cs o with|some c=>K c a|none=>False)
 |_,_=>False
def Kx(i:TI)(H:Hp)(x j:AV)(g:Option Bool)(a:AT)(K:AV→AT→Prop):Prop:=
 match i.elm,j with
 |some (_,sz),.d (.int _ n)=>(match x,a with
  |.d (.list b),.ds e r=>(match Nat.beq e.length sz,Nat.ble 1 sz with|true,true=>AQ g (FN b n e)∧K (.iptr e 0) r|_,_=>False)
  |.ref k q off len,.nat o r=>(match A7 H k q,Nat.beq (H k).sz sz,Nat.ble 1 sz with|true,true,true=>AQ g (HY n len off sz o)∧K (.ptr k q o) r|_,_,_=>False)
  |_,_=>False)
 |none,.d (.int _ (.ofNat n))=>(match i.arr,x with
  |some (m,sz),.iptr cs off=>(match Nat.ble (n+1) m,Nat.ble 1 sz with|true,true=>K (.iptr cs (off+n*sz)) a|_,_=>False)
  |some (m,sz),.ptr k q off=>(match A7 H k q,Nat.ble (n+1) m,Nat.ble 1 sz with|true,true,true=>K (.ptr k q (off+n*sz)) a|_,_,_=>False)
  |_,_=>False)
 |_,_=>False
def Lk(i:TI)(x j:AV)(g:Option Bool)(a:AT)(K:AV→AT→Prop):Prop:=
 match x,j,a with
 |.d (.str s),.d (.int _ n),.num b r=>(match Nat.beq i.kin 2 with|true=>AQ g (ZB s n b)∧K (.d (.int .u8 b)) r|false=>False)
 |_,_,_=>False
def L1(op:BinOp)(k:IntKind)(x y:Int)(g:Option Bool)(a:AT)(K:AV→AT→Prop):Prop:=
 match op with
 |.eql=>K (.d (.bool (decide (x=y)))) a
 |.neq=>K (.d (.bool (!decide (x=y)))) a
 |.lss=>K (.d (.bool (decide (x<y)))) a
 |.leq=>K (.d (.bool (decide (x≤y)))) a
 |.gtr=>K (.d (.bool (decide (y<x)))) a
 |.geq=>K (.d (.bool (decide (y≤x)))) a
 |.add=>match a with|.num n r=>AQ g (Br k (x+y) n)∧K (.d (.int k n)) r|_=>False
 |.sub=>match a with|.num n r=>AQ g (Br k (x-y) n)∧K (.d (.int k n)) r|_=>False
 |.mul=>match a with|.num n r=>AQ g (Br k (x*y) n)∧K (.d (.int k n)) r|_=>False
 |.quo=>match a with|.num n r=>AQ g (JY y 0)∧AQ g (Br k (x.tdiv y) n)∧K (.d (.int k n)) r|_=>False
 |.rem=>match a with|.num n r=>AQ g (JY y 0)∧AQ g (A0 (x.tmod y) n)∧K (.d (.int k n)) r|_=>False
 |.shr=>match a with|.num n r=>AQ g (JX 0 y)∧AQ g (A0 (x.fdiv (2^(min y.toNat k.bits))) n)∧K (.d (.int k n)) r|_=>False
 |.shl=>match a with|.num n r=>AQ g (JX 0 y)∧AQ g (Br k (x*2^(min y.toNat k.bits)) n)∧K (.d (.int k n)) r|_=>False
 |.and=>match a with|.num n r=>AQ g (A0 (BR k x y) n)∧K (.d (.int k n)) r|_=>False
 |.or=>match a with|.num n r=>AQ g (A0 (DR k x y) n)∧K (.d (.int k n)) r|_=>False
 |.xor=>match a with|.num n r=>AQ g (A0 (HT k x y) n)∧K (.d (.int k n)) r|_=>False
 |_=>False
def Mk(op:BinOp)(x y:ByteArray)(g:Option Bool)(a:AT)(K:AV→AT→Prop):Prop:=
 match op with
 |.add=>AQ g (X8 x y)∧K (.d (.str (x++y))) a
 |.eql=>K (.d (.bool (decide (x=y)))) a
 |.neq=>K (.d (.bool (!decide (x=y)))) a
 |.lss=>K (.d (.bool (Ba x y))) a
 |.leq=>K (.d (.bool (Ba x y||decide (x=y)))) a
 |.gtr=>K (.d (.bool (!(Ba x y||decide (x=y))))) a
 |.geq=>K (.d (.bool (!Ba x y))) a
 |_=>False
def H2(H:Hp)(neg:Bool)(x:AV)(a:AT)(K:AV→AT→Prop):Prop:=
 match x with
 |.e0=>∀b,K (.d (.bool b)) a
 |.d (.list c)=>∀b,(c≠[]→b=neg)→K (.d (.bool b)) a
 |.ref k q _ n=>(match A7 H k q with|true=>∀b,(n≠0→b=neg)→K (.d (.bool b)) a|false=>False)
 |_=>False
def ZG:IntKind→IntKind→Bool
 |.i8,.i8|.i16,.i16|.i32,.i32|.i64,.i64|.u8,.u8|.u16,.u16|.u32,.u32|.u64,.u64=>true
 |_,_=>false
theorem jh{a b:IntKind}(h:ZG a b=true):a=b:=by cases a<;>cases b<;>first|rfl|cases h
def Me(i:TI)(H:Hp)(op:BinOp)(c:Bool)(x y:AV)(g:Option Bool)(a:AT)(K:AV→AT→Prop):Prop:=
 match x,y with
 |.d (.int k m),.d (.int k' n)=>(match ZG k k' with|true=>L1 op k m n g a K|false=>False)
 |.d (.str m),.d (.str n)=>Mk op m n g a K
 |.d (.bool m),.d (.bool n)=>(match Nat.beq i.kin 1 with
  |true=>(match op with
   |.eql=>K (.d (.bool (m==n))) a
   |.neq=>K (.d (.bool (!(m==n)))) a
   |_=>False)
  |false=>False)
 |.agg xs,.agg ys=>(match i.eqt with
  |some ks=>(match CD ks xs ys with
   |some b=>(match op with
    |.eql=>K (.d (.bool b)) a
    |.neq=>K (.d (.bool (!b))) a
    |_=>False)
   |none=>False)
  |none=>False)
 |x,.e0=>(match c,Nat.beq i.kin 4 with
  |true,true=>(match op with
   |.eql=>H2 H false x a K
   |.neq=>H2 H true x a K
   |_=>False)
  |_,_=>False)
 |_,_=>False
def MN(op:UnOp)(x:AV)(g:Option Bool)(a:AT)(K:AV→AT→Prop):Prop:=
 match op,x with
 |.not,.d (.bool b)=>K (.d (.bool (!b))) a
 |.neg,.d (.int k n)=>(match a with|.num m r=>AQ g (Br k (0-n) m)∧K (.d (.int k m)) r|_=>False)
 |.xor,.d (.int k n)=>(match a with|.num m r=>AQ g (A0 (FS k n) m)∧K (.d (.int k m)) r|_=>False)
 |_,_=>False
def LU(s d:TI)(x:AV)(g:Option Bool)(a:AT)(K:AV→AT→Prop):Prop:=
 match x with
 |.d (.int _ n)=>(match s.ik,d.ik,a with|some _,some k,.num m r=>AQ g (Br k n m)∧K (.d (.int k m)) r|_,_,_=>False)
 |.d (.str s')=>(match Nat.beq s.kin 2,Nat.beq d.kin 2 with|true,true=>K (.d (.str s')) a|_,_=>False)
 |_=>False
def K8(i:TI)(H:Hp)(x:AV)(lo hi:Option AV)(e:Bool)(g:Option Bool)(a:AT)(K:AV→AT→Prop):Prop:=
 match e,a with
 |false,.nat l (.nat h r)=>(match x with
  |.d (.str s)=>(match Nat.beq i.kin 2 with|true=>AQ g (Ck 0 lo l)∧AQ g (Ck s.size hi h)∧AQ g (Du l h s.size)∧K (.d (.str (s.extract l h))) r|false=>False)
  |.d (.list es)=>(match i.elm,r with
   |some (_,sz),.av (.d (.list b)) r=>(match Nat.ble 1 sz with
    |true=>AQ g (Ck 0 lo l)∧AQ g (Ck es.length hi h)∧AQ g (Du l h es.length)∧AQ g (JZ es sz l h b)∧K (.d (.list b)) r
    |false=>False)
   |_,_=>False)
  |.ref k q off n=>(match i.elm,r,A7 H k q with
   |some (_,sz),.nat d (.nat c r),true=>(match Nat.ble 1 sz,Nat.beq (H k).sz sz with
    |true,true=>AQ g (Ck 0 lo l)∧AQ g (Ck n hi h)∧AQ g (Du l h n)∧AQ g (M3 off l h d c)∧K (.ref k q d c) r
    |_,_=>False)
   |_,_,_=>False)
  |_=>False)
 |_,_=>False
def L2(i:TI)(H:Hp)(x:AV)(g:Option Bool)(a:AT)(K:AV→AT→Prop):Prop:=
 match x,a with
 |.d (.str s),.num n r=>(match Nat.beq i.kin 2 with|true=>AQ g (A0 s.size n)∧K (.d (.int .i64 n)) r|false=>False)
 |.d (.list es),.num n r=>(match Nat.beq i.kin 4 with|true=>AQ g (A0 es.length n)∧K (.d (.int .i64 n)) r|false=>False)
 |.e0,.num n r=>(match Nat.beq i.kin 4 with|true=>AQ g (A0 0 n)∧K (.d (.int .i64 n)) r|false=>False)
 |.ref k q _ m,.num n r=>(match Nat.beq i.kin 4,A7 H k q with|true,true=>AQ g (A0 m n)∧K (.d (.int .i64 n)) r|_,_=>False)
 |_,_=>False
def Pc(H:Hp):AV→Option (Bool×List (List D))
 |.d (.map q a)=>some (q,a)
 |.mp k g=>match A7 H k g,(H k).e with
  |true,.m q a=>some (q,a)
  |_,_=>none
 |_=>none
def ZE:Bool→Bool→Bool
 |true,true=>true
 |false,false=>true
 |_,_=>false
theorem iK{a b:Bool}(h:ZE a b=true):a=b:=by cases a<;>cases b<;>first|rfl|cases h
def Vg(a:List (List D))(s:ByteArray)(z vs:List D)(ok:Bool):Prop:=(D5 s a).isSome=ok∧(D5 s a).getD z=vs
def Lw(i:TI)(H:Hp)(x y:AV)(b:Bool)(g:Option Bool)(a:AT)(K:AV→AT→Prop):Prop:=
 match i.mp,Pc H x,y,a with
 |some (q,z),some (d,c),.d (.str s),.av (.d (.bool ok)) (.ds vs r)=>(match ZE q d with
  |true=>AQ g (Vg c s z vs ok)∧K (Ic b q vs ok) r
  |false=>False)
 |_,_,_,_=>False
def Qk(i:TI)(f:Nat):Option (Nat×Nat):=match i.arr with|some (_,sz)=>some (f*sz,sz)|none=>match AS i.fld f with|some (o,n,_)=>some (o,n)|none=>none
def mu(i:TI):Bool:=match i.arr with|some (_,sz)=>Nat.ble 1 sz|none=>false
def Jn(i:TI)(cells:List AV):List (Nat×AV)→Option (List AV)
 |[]=>some cells
 |(f,v)::a=>match Qk i f,BL v with
  |some (off,size),some vs=>match Nat.beq vs.length size,Nat.ble (off+vs.length) cells.length with
   |true,true=>Jn i (cells.take off++vs++cells.drop (off+vs.length)) a
   |_,_=>none
  |_,_=>none
def Lh(i:TI)(parts:List (Nat×AV))(a:AT)(K:AV→AT→Prop):Prop:=
 match i.str||mu i,i.zer with
 |true,some z=>(match Jn i z parts with|some cs=>K (.agg cs) a|none=>False)
 |_,_=>False
def FP:AV→Bool
 |.fn (.yield _) _ _=>false
 |_=>true
def tV(T:Nat→Option TI)(H:Hp)(op:Op)(ρ:Operand→AV)(g:Option Bool)(a:AT)(K:AV→AT→Prop):Prop:=
 match op with
 |.move x=>K (ρ x) a
 |.assign x=>K (ρ x) a
 |.pick c x y=>match ρ c with|.d (.bool t)=>K (PB t (ρ x) (ρ y)) a|_=>False
 |.load t x=>match T t with|some i=>HO i H (ρ x) g a K|none=>False
 |.fieldAddr t x f=>match T t with|some i=>Ku i H f (ρ x) a K|none=>False
 |.field t x f=>match T t with|some i=>Lg i f (ρ x) a K|none=>False
 |.indexAddr t x j=>match T t with|some i=>Kx i H (ρ x) (ρ j) g a K|none=>False
 |.index t x j=>match T t with|some i=>Lk i (ρ x) (ρ j) g a K|none=>False
 |.extract x j=>match ρ x with|.tup vs=>(match AS vs j with|some y=>K y a|none=>False)|_=>False
 |.binOp o t x y _=>match T t with|some i=>Me i H o (Fw y) (ρ x) (ρ y) g a K|none=>False
 |.unOp o _ x=>MN o (ρ x) g a K
 |.nilCheck x=>match ρ x with|.ptr k q off=>(match A7 H k q with|true=>K (.ptr k q off) a|false=>False)|.iptr cs off=>K (.iptr cs off) a|_=>False
 |.convert s d x=>match T s,T d with|some i,some j=>LU i j (ρ x) g a K|_,_=>False
 |.makeInterface t x=>match T t with|some i=>(match i.str||i.elm.isSome,ρ x with|true,.agg xs=>(match H5 xs with|some ds=>K (.ifc t ds true) a|none=>False)|true,.d x=>K (.ifc t [x] false) a|_,_=>False)|none=>False
 |.typeAssert x _ t ok=>match T t with|some i=>(match i.str||i.elm.isSome,ρ x with|true,.ifc u ds q=>(match Nat.beq u t,ZN q ds with|true,some v=>K (cond ok (.tup [v,.d (.bool true)]) v) a|false,some _=>(match i.zer.isSome,ok with|true,true=>K (.tup [.top,.d (.bool false)]) a|_,_=>False)|_,_=>False)|true,.p .nilIface=>(match i.zer.isSome,ok with|true,true=>K (.tup [.top,.d (.bool false)]) a|_,_=>False)|_,_=>False)|none=>False
 |.makeFunc fn first b=>match fn with|.yield _=>False|fn=>K (.fn fn (first.toList.map ρ) (b.toList.map ρ)) a
 |.slice t x lo hi h=>match T t with|some i=>K8 i H (ρ x) (lo.map ρ) (hi.map ρ) h.isSome g a K|none=>False
 |.lookup t x y e=>match T t with|some i=>Lw i H (ρ x) (ρ y) e g a K|none=>False
 |.build t parts=>match T t,parts.toList.all (fun p=>FP (ρ p.2))with|some i,true=>Lh i (parts.toList.map fun p=>(p.1,ρ p.2)) a K|_,_=>False
 |.call c=>match c.callee,c.args.toList,c.argTypes.toList with
  |.builtin .len,[x],[t]=>match T t with|some i=>L2 i H (ρ x) g a K|none=>False
  |.builtin .min,[x,y],_=>Cw false (ρ x) (ρ y) (fun v=>K v a)
  |.builtin .max,[x,y],_=>Cw true (ρ x) (ρ y) (fun v=>K v a)
  |.builtin .max,[x,y,z],_=>Ed true (ρ x) (ρ y) (ρ z) (fun v=>K v a)
  |_,_,_=>False
 |_=>False
end Go.Eng
