import Derived.Test.YtifefgdogdecnaaGreatDoorEa02
import Derived.KernelRfl
import Derived.Still
import Derived.IntWalk
import Derived.Test.YtifefgdogdecnaaGreatDoorEa00
namespace Go.Eng
set_option linter.all false
open Go Go.RowKit
def args(xs:List AV):Nat→AV:=fun i=>(xs[i]?).getD .top
def BP(l:Nat)(H:Hp):Hp:=fun k=>if k.1≤l then H k else⟨0,false,0,0,[]⟩
def EU(l:Nat)(H' H:Hp):Hp:=fun k=>if k.1≤l then H' k else H k
def CC(P:Program)(σ:St):List ResultVar→(List AV→Prop)→Prop
 |[],K=>K []
 |.tmp t::b,K=>CC P σ b (fun xs=>K (σ.s t::xs))
 |.cell a t::b,K=>CA P σ.H t (σ.s a) (fun x=>CC P σ b (fun xs=>K (x::xs)))
def B4:List AV→AV
 |[x]=>x
 |xs=>.tup xs
inductive Fz (H:Hp) (l:Nat):AV→AV→Prop
 |keep (x:AV) (h:x.low l=true):Fz H l x x
 |e0:Fz H l .e0 (.d (.list []))
 |mp (k:Aa) (a:Bool) (es:List (List D)) (hk:k.1=l+1) (hl:(H k).live=true) (he:(H k).e=.m a es):Fz H l (.mp k (H k).g) (.d (.map a es))
 |ref (k:Aa) (off n:Nat) (es:List (List D)) (hk:k.1=l+1) (hl:(H k).live=true) (hn:es.length=n) (hz:(H k).sz≠0) (he:∀e,e∈es→e.length=(H k).sz)
   (hlen:(off+n)*(H k).sz≤(H k).cells.length)
   (h:∀(i j:Nat) (e:List D) (d:D) (x:AV),es[i]?=some e→e[j]?=some d→(H k).cells[(off+i)*(H k).sz+j]?=some x→Fz H l x (.d d)):
   Fz H l (.ref k (H k).g off n) (.d (.list es))
 |agg (xs ys:List AV) (hl:xs.length=ys.length) (h:∀(i:Nat) (x y:AV),xs[i]?=some x→ys[i]?=some y→Fz H l x y):Fz H l (.agg xs) (.agg ys)
 |tup (xs ys:List AV) (hl:xs.length=ys.length) (h:∀(i:Nat) (x y:AV),xs[i]?=some x→ys[i]?=some y→Fz H l x y):Fz H l (.tup xs) (.tup ys)
def WU(P:Program)(fn:Func)(l:Nat)(H:Hp)(a:AV→Hp→Prop):Exit→St→Prop:=fun e σ=>
 (e=.normal∨e=.ret)∧CC P σ fn.results.toList (fun xs=>∃y,Fz σ.H l (B4 xs) y∧a y (EU l σ.H H))
section
variable {P:Program} {l n:Nat} {B:Base} {H H':Hp} {m m':Mu} {S S':Nat→Prop} {w w':World} {s:Nat→AV} {a:Act} {K:St→Prop} {o:Oper} {σ:St} {Q:Exit→St→Prop}
theorem aX{t:TypeId}{v b:Value}(h:(Instr.loadAt t v).run P w=.ok b w):(do loadVar t (←asAddr v):Sem Value).run P w=.ok b w:=by
 cases v<;>try (simp[Instr.loadAt,Instr.sureAddr]at h;done)
 rename_i p
 cases p with
 |none=>simp[Instr.loadAt,Instr.sureAddr]at h
 |some a=>simpa[Instr.loadAt,Instr.sureAddr,asAddr]using h
def Jv(tmps:Array Value):ResultVar→Sem Value
 |.tmp t=>pure (tmps.getD t undef)
 |.cell p t=>do loadVar t (←asAddr (tmps.getD p undef))
theorem NT(k:Ok (l+1) H m S w)(c:BH (l+1) s H m S a w):∀(rs:List ResultVar) (K:List AV→Prop),CC P ⟨s,H⟩ rs K→
  ∃(vs:List Value) (xs:List AV),(rs.mapM (Jv a.tmps)).run P w=.ok vs w∧xs.length=vs.length∧
   (∀(i:Nat) (x:AV) (v:Value),xs[i]?=some x→vs[i]?=some v→RepA w S H m (l+1) x v)∧K xs
 |[],K,h=>⟨[],[],by simp,rfl,fun i x v h=>by simp at h,h⟩
 |.tmp t::b,K,h=>by
  obtain⟨vs,xs,f,g,n,j⟩:=NT k c b _ h
  refine⟨a.tmps.getD t undef::vs,s t::xs,by simp only[JT,Jv,Sem.run_bind,Sem.run_pure,Result.andThen_ok,f],by simp[g],fun i x v hx d=>?_,j⟩
  cases i with
  |zero=>simp at hx d;subst hx;subst d;simpa using c t
  |succ i=>exact n i x v (by simpa using hx) (by simpa using d)
 |.cell p t::b,K,h=>by
  obtain⟨v0,r,o,u,q⟩:=RD h (c p) k
  obtain⟨vs,xs,f,g,n,j⟩:=NT k c b _ q
  refine⟨v0::vs,r::xs,?_,by simp[g],fun i x v hx d=>?_,j⟩
  ·have:=aX o
   have e:(Jv a.tmps (.cell p t)).run P w=.ok v0 w:=this
   simp only[JT,Sem.run_bind,e,Sem.run_pure,Result.andThen_ok,f]
  grind
def HH(l:Nat)(H:Hp)(m:Mu)(S:Nat→Prop):Nat→Prop:=fun b=>S b∨∃k:Aa,k.1=l+1∧(H k).live=true∧((m k).cap≠0∨(H k).e.isO=true)∧b=(m k).b
theorem Ok.fin(h:Ok (l+1) H m S w):Ok l H m (HH l H m S) w∧Ext l H m S w H m (HH l H m S) w:=by
 have n:Ext (l+1) H m S w H m (HH l H m S) w:=⟨fun _ h=>.inl h,fun _ _=>rfl,fun _ _=>Yf _,fun _ _ _ h=>⟨h,rfl,rfl⟩,rfl,rfl,rfl,Yf _⟩
 refine⟨⟨fun b c=>?_,fun q u=>h.empty q (by omega),fun q u hl g=>?_,fun q z u y=>h.inj q z (by omega) (by omega),fun q u hl g=>?_,
  ⟨fun k p j=>(h.mp.o k (by omega) j).mono (fun _ h=>.inl h) (fun _ _=>rfl) (fun _=>rfl),fun k p j he=>?_,fun k k' p s=>h.mp.i k k' (by omega) (by omega)⟩⟩,n.mono (by omega)⟩
 ·rcases c with c|⟨k,p,hl,g,rfl⟩
  ·exact h.sub b c
  ·rcases g with g|g
   ·obtain⟨C,c,_⟩:=h.blk k (by omega) hl g
    grind
   ·obtain⟨o,c,_⟩:=(h.mp.o k (by omega) hl).at g
    grind
 ·rintro(hs|⟨k,p,f,a,e⟩)
  ·exact h.fresh q (by omega) hl g hs
  ·rcases a with a|a
   ·have:=h.inj q k (by omega) (by omega) hl f g a e
    grind
   ·obtain⟨o,c,r⟩:=(h.mp.o k (by omega) f).at a
    obtain⟨C,d,_⟩:=h.blk q (by omega) hl g
    rw[e,c]at d;cases d;cases r
 ·obtain⟨C,c,hs,t,hx⟩:=h.blk q (by omega) hl g
  exact⟨C,c,hs,t,fun i x v hi j=>⟨(hx i x v hi j).1,(hx i x v hi j).2.ext n (by omega)⟩⟩
 ·refine⟨(h.mp.c k (by omega) j he).1,?_⟩
  rintro(hs|⟨k',s,f,a,e⟩)
  ·exact(h.mp.c k (by omega) j he).2 hs
  ·rcases a with a|a
   ·obtain⟨o,c,r⟩:=(h.mp.o k (by omega) j).at he
    obtain⟨C,d,_⟩:=h.blk k' (by omega) f a
    rw[←e,c]at d;cases d;cases r
   ·have:=h.mp.i k k' (by omega) (by omega) j f he a e
    grind
theorem Fz.sound{x y:AV}(h:Fz H l x y)(Q:Ok (l+1) H m S w):∀{v:Value},RepA w S H m (l+1) x v→RepA w (HH l H m S) H m l y v:=by
 have t:Ext (l+1) H m S w H m (HH l H m S) w:=⟨fun _ h=>.inl h,fun _ _=>rfl,fun _ _=>Yf _,fun _ _ _ h=>⟨h,rfl,rfl⟩,rfl,rfl,rfl,Yf _⟩
 induction h with
 |keep x h=>exact fun hx=>(hx.ext t (Yf _)).low h
 |e0=>
  intro v hx
  cases hx with
  |e0 N=>exact(RepA.e0 N).e0_d
 |mp k a es I hl he=>
  intro v hx
  generalize F:(H k).g=g at hx
  cases hx with
  |mpD _ _ _ p G s o=>rw[s F.symm]at hl;cases hl
  |mpL _ p q=>
   have U:=Q.mp.o k (by omega) hl
   rw[he]at U
   obtain⟨ents,A,o,O⟩:=U
   exact .d _ _ (.ofM (.inr ⟨k,I,hl,.inr (by rw[he];rfl),rfl⟩) o (O.mono (fun _ h=>.inl h) (fun _ _=>rfl)))
 |ref k off n es I hl J hz he f h u=>
  intro v hx
  generalize F:(H k).g=g at hx
  cases hx with
  |refD _ _ _ _ _ p G s o=>rw[s F.symm]at hl;cases hl
  |refL _ _ _ N p q T R=>
   by_cases K:n=0
   ·subst K
    have:es=[]:=YZ J
    subst this
    cases N with
    |none=>
     have e:(m k).cap-off=0:=by
      rcases Yw off (m k).cap with h|h
      ·have:=R h;cases this
      ·omega
     rw[e]
     exact .d _ _ .nil
    |some ad=>exact .d _ _ (.list [] ad 0 _ (fun _ _=>.bool true) (fun h=>absurd rfl h) (YU _) (fun _ h=>by cases h) (fun i j e x h=>by simp at h) (fun i j e x h=>by simp at h))
   ·have L:=R (by omega)
    subst L
    obtain⟨E,C,o,O,Z,P⟩:=Q.row (k:=k) (by omega) hl (by
     intro e
     rw[e,YK]at f
     have:=J7 (show 0<n by omega) (show 0<(H k).sz by omega)
     simp at f
     omega)
    have r:∀(i j:Nat) (e:List D) (d:D),es[i]?=some e→e[j]?=some d→(off+i)*(H k).sz+j<(H k).cells.length:=by
     intro i j e d hi c
     have W:i<n:=by
      rw[←J]
      rcases Yw i es.length with h|h
      ·exact h
      ·rw[YE h]at hi;cases hi
     have X:j<(H k).sz:=by
      rw[←he e (Yi hi)]
      rcases Yw j e.length with h|h
      ·exact h
      ·rw[YE h]at c;cases c
     have:(off+i+1)*(H k).sz≤(off+n)*(H k).sz:=YP _ (by omega)
     rw[YK (off+i)]at this
     omega
    have:=RepD.list (w:=w) (S:=HH l H m S) es ⟨(m k).b,(m k).o+off*(H k).sz,none⟩ (H k).sz ((m k).cap-off) (fun i j=>(C[(m k).o+((off+i)*(H k).sz+j)]?).getD undef)
     (fun _=>.inr ⟨k,I,hl,.inl E,rfl⟩) (by omega) he
     (fun i j e d hi c=>by
      obtain⟨v,z,_,_⟩:=P _ _ (Yb (r i j e d hi c))
      rw[Addr.add_lit,Fl o,z]
      rw[show(m k).o+off*(H k).sz+(i*(H k).sz+j)=(m k).o+((off+i)*(H k).sz+j)from by rw[YK];omega,z]
      rfl)
     (fun i j e d hi c=>by
      obtain⟨v,z,Y,V⟩:=P _ _ (Yb (r i j e d hi c))
      rw[z]
      have:=u i j e d _ hi c (Yb (r i j e d hi c)) V
      cases this with
      |d _ _ s=>exact s)
    rw[J]at this
    exact .d _ _ this
 |agg xs ys hl h u=>
  intro v hx
  cases hx with
  |agg _ vs q o B=>
   refine .agg _ _ (by omega) o (fun i y v hy M=>?_)
   have b:i<xs.length:=by
    rw[hl]
    rcases Yw i ys.length with h|h
    ·exact h
    ·rw[YE h]at hy;cases hy
   exact u i _ y (Yb b) hy (B i _ v (Yb b) M)
 |tup xs ys hl h u=>
  intro v hx
  cases hx with
  |tup _ vs q B=>
   refine .tup _ _ (by omega) (fun i y v hy M=>?_)
   have b:i<xs.length:=by
    rw[hl]
    rcases Yw i ys.length with h|h
    ·exact h
    ·rw[YE h]at hy;cases hy
   exact u i _ y (Yb b) hy (B i _ v (Yb b) M)
theorem ZY{fn:Func}{KK:List AV→Prop}(j:Ok (l+1) H m S w)(k:BH (l+1) s H m S a w)(h:CC P ⟨s,H⟩ fn.results.toList KK):
  ∃v xs,(results fn a.tmps).run P w=.ok v w∧RepA w S H m (l+1) (B4 xs) v∧KK xs:=by
 obtain⟨vs,xs,d,c,b,g⟩:=NT j k _ _ h
 have o:∀f:ResultVar→Sem Value,(∀r,f r=Jv a.tmps r)→(fn.results.mapM f).run P w=.ok vs.toArray w:=by
  intro f n
  have:f=Jv a.tmps:=funext n
  subst this
  rw[QN]
  simp[d]
 refine⟨if h:vs.toArray.size=1 then vs.toArray[0]else .tuple vs.toArray,xs,?_,?_,g⟩
 ·unfold results
  simp only[Sem.run_bind]
  rw[o _ (fun r=>by cases r<;>rfl)]
  simp
 ·match xs,vs,c,b with
  |[x],[v],_,b=>exact b 0 x v rfl rfl
  |[],[],_,_=>exact .tup _ _ rfl (fun i x v h=>by simp[B4]at h)
  |x::x'::xs,v::q::vs,c,b=>
   have e:¬((v::q::vs).toArray.size=1):=by simp
   rw[dif_neg e]
   exact .tup _ _ (by simpa using c) (fun i x v hx p=>b i x v hx (by simpa using p))
theorem de{P:Program}{f:FuncId}{fn:Func}{c:Code}{n l:Nat}{xs:List AV}{H:Hp}{s:AV→Hp→Prop}(hf:P.funcs[f]?=some fn)(hb:fn.body=some c)(G:(fn.name== "runtime.NumGoroutine")=false)
  (hn:fn.ntmps=n) (hx:xs.length≤n) (h:∀B:Base,A0 P l n B c (WU P fn l H s) ⟨args xs,BP l H⟩):Zbb P f l xs H s:=by
 refine⟨⟨fn,c,hf,hb,G⟩,fun m S w vs K j=>?_⟩
 have a:∀k:Aa,k.1≤l→BP l H k=H k:=fun k g=>by unfold BP;rw[Yj g]
 have hdead:∀k:Aa,¬k.1≤l→(BP l H k).live=false:=fun k g=>by unfold BP;rw[Yt g]
 have u:∀k:Aa,(BP l H k).live=true→k.1≤l:=fun k hl=>by
  grind
 have X:Ok (l+1) (BP l H) m S w:=by
  refine⟨K.sub,fun q d hl o=>?_,fun q d hl o=>?_,fun q M d I hl t o J heq=>?_,fun q d hl o=>?_,
   K.mp.stepL (fun q _ hl _=>by have:=u q hl;rw[a q this]at hl⊢;exact⟨this,hl,rfl,rfl⟩) (fun _ h=>h) (fun _ h=>.inl h) (fun _ _=>rfl) (fun _ _ h _=>h)⟩
  ·have:=u q hl;rw[a q this]at hl⊢;exact K.empty q this hl o
  ·have:=u q hl;rw[a q this]at hl;exact K.fresh q this hl o
  ·have e:=u q hl
   have e':=u M t
   rw[a q e]at hl;rw[a M e']at t
   exact K.inj q M e e' hl t o J heq
  ·have e:=u q hl
   rw[a q e]at hl⊢
   obtain⟨C,U,V,W,T⟩:=K.blk q e hl o
   exact⟨C,U,V,W,fun i x v hi O=>⟨(T i x v hi O).1,(T i x v hi O).2.agree (fun k g=>a k (by omega)) (fun _ _=>rfl)⟩⟩
 have hE:Ext l H m S w (BP l H) m S w:=⟨fun _ h=>h,fun _ _=>rfl,fun k g=>by rw[a k g];exact Yf _,fun k g _ hl=>by rw[a k g]at hl⊢;exact⟨hl,rfl,rfl⟩,rfl,rfl,rfl,Yf _⟩
 have hR:R l n ⟨H,m,S,w⟩ ⟨args xs,BP l H⟩ {tmps:=vs++Array.replicate (fn.ntmps-vs.size) undef,defers:=[] } w:=by
  refine⟨m,S,X,by simp[hn];rw[←j.1];omega,rfl,fun i=>?_,hE⟩
  simp only[args]
  cases hi:xs[i]? with
  |none=>exact .top _
  |some x=>
   have hlt:i<xs.length:=by
    grind
   have D:i<vs.size:=by rw[←j.1];exact hlt
   rw[Yp,MP D,Ym D]
   exact((j.2 i x _ hi (Ym D)).agree (fun k g=>a k g) (fun _ _=>rfl)).lvl (Nat.le_succ l)
 refine calls_of_wp hf hb (wp_mono (h ⟨H,m,S,w⟩ _ w hR) fun e a' w' ⟨σ',d,Y⟩=>?_)
 obtain⟨s',H'⟩:=σ'
 obtain⟨m',S',A,hn',hd',Z,N⟩:=Y.un
 have done:CC P ⟨s',H'⟩ fn.results.toList (fun xs=>∃y,Fz H' l (B4 xs) y∧s y (EU l H' H))→a'.defers=[]∧∃v,(results fn a'.tmps).run P w'=.ok v w'∧
   (∃r Q p E z,Ending.returned v=.returned Q∧s r p∧Ok l p E z w'∧RepA w' z p E l r Q∧Ext l H m S w p E z w'):=by
  intro hr
  obtain⟨v,xs,U,V,y,W,T⟩:=ZY A Z hr
  obtain⟨L,k2⟩:=A.fin
  have b:∀k:Aa,k.1≤l→EU l H' H k=H' k:=fun k g=>by unfold EU;rw[Yj g]
  refine⟨hd',v,U,y,v,EU l H' H,m',_,rfl,T,?_,(W.sound A V).agree b (fun _ _=>rfl),?_⟩
  ·refine⟨L.sub,fun q d hl o=>?_,fun q d hl o=>?_,fun q M d I hl t o J heq=>?_,fun q d hl o=>?_,
    L.mp.step (Yf _) (fun q d hl _=>by rw[b q d]at hl⊢;exact⟨hl,rfl,rfl⟩) (fun _ h=>h) (fun _ h=>.inl h) (fun _ _=>rfl) (fun _ _ h _=>h)⟩
   ·rw[b q d]at hl⊢;exact L.empty q d hl o
   ·rw[b q d]at hl;exact L.fresh q d hl o
   ·rw[b q d]at hl;rw[b M I]at t;exact L.inj q M d I hl t o J heq
   ·rw[b q d]at hl⊢
    obtain⟨C,g1,g2,g3,g4⟩:=L.blk q d hl o
    exact⟨C,g1,g2,g3,fun i x v hi O=>⟨(g4 i x v hi O).1,(g4 i x v hi O).2.agree (fun k g=>b k (by omega)) (fun _ _=>rfl)⟩⟩
  ·have F:=Ext.trans (show Ext l H m S w H' m' S' w' from N) k2
   exact⟨F.s,F.blk,fun k g=>by rw[b k g];exact F.g k g,fun k g hg hl=>by rw[b k g]at hg hl⊢;exact F.live k g hg hl,F.os,F.tape,F.output,F.size⟩
 rcases d.1 with rfl|rfl
 ·exact done d.2
 ·exact done d.2
end
end Go.Eng
namespace Go.Eng
set_option linter.all false
open Go Go.RowKit
section
variable {P:Program} {l n:Nat} {ds:List (Option Nat)} {ops rest:List Oper} {K:St→Prop} {s:Nat→AV} {H:Hp} {d:Option Nat} {op:Op} {ty:TypeId} {ps:String} {af:Array Edge} {g:Option (Nat×Bool)}
variable {x y:Operand} {t:TypeId}
theorem OW{l:Nat}{H:Hp}{k:Aa}(h:k.1≤l):BP l H k=H k:=by unfold BP;rw[Yj h]
theorem ft{l:Nat}{H:Hp}{i:Nat}:BP l H (l+1,i)=⟨0,false,0,0,[]⟩:=by unfold BP;rw[Yt (by simp)]
end
def Bj(o:Oper):Bool:=o.dst.isSome&&match o.op with
 |.call c=>match c.callee with
  |.value _=>true
  |.builtin .len|.builtin .min|.builtin .max=>true
  |_=>false
 |.binOp _ _ _ y _=>!Fq y
 |.alloc _|.box _ _|.store _ _ _|.buildSlice _ _ _|.makeSlice _ _ _|.makeMap _ _|.range _ _|.next _ _|.entry _=>false
 |_=>true
def PD(o:Oper):Bool:=match o.op with
 |.buildSlice _ (_+1) _=>true
 |_=>false
def BK(o:Oper):Bool:=Bj o||(o.dst.isSome&&PD o)
def WM(P:Program)(t:TypeId)(len:Nat)(ps:List (Nat×AV))(v:AV):Prop:=
 ∃e sz z es,elm P t=some (e,sz)∧sz≠0∧(len+1)*sz≤16777216∧zer P e=some z∧z.length=sz∧Dj sz 0 ps=some es∧es.length=len+1∧v=.d (.list es)
def qV(P:Program)(l:Nat)(H:Hp)(o:Oper)(ρ:Operand→AV)(v:AV):Prop:=
 match o.op with
 |.buildSlice t (len+1) parts=>WM P t len (parts.toList.map fun p=>(p.1,ρ p.2)) v
 |.call c=>match c.callee with
  |.value f=>match ρ f with
   |.fn (.func g) first a=>Zbb P g (l+1) (first++c.args.toList.map ρ++a) H (fun y b=>y=v∧b=H)
   |_=>False
  |_=>AG P H o.op ρ (fun y=>y=v)
 |_=>AG P H o.op ρ (fun y=>y=v)
def Dm(P:Program)(l n:Nat)(o:Oper)(K:St→Prop)(σ:St):Prop:=
 match o.op with
 |.buildSlice t (len+1) parts=>∃v,WM P t len (parts.toList.map fun p=>(p.1,ev σ.s p.2)) v∧Bu n o.dst K σ v
 |.call c=>match c.callee with
  |.value f=>match ev σ.s f with
   |.fn (.func g) first a=>∃r,Zbb P g (l+1) (first++c.args.toList.map (ev σ.s)++a) σ.H (fun y b=>y=r∧b=σ.H)∧Bu n o.dst K σ r
   |_=>False
  |_=>AW P l n o K σ
 |_=>AW P l n o K σ
def Ca(P:Program)(l n:Nat)(ds:List (Option Nat)):List Oper→(St→Prop)→St→Prop
 |[],K,σ=>K σ
 |o::a,K,σ=>match o.guard with
  |none=>Dm P l n o (Ca P l n ds a K) σ
  |some (i,b)=>match ET σ.s ds i b with
   |some t=>(t=true→Dm P l n o (Ca P l n ds a K) σ)∧(t=false→match o.dst with|some d=>d<n∧Ca P l n ds a K ⟨upd σ.s d (.tup []),σ.H⟩|none=>False)
   |none=>False
section
variable {P:Program} {l n:Nat} {B:Base} {H:Hp} {K K':AV→Prop} {t:TypeId} {x y:AV} {ρ ρ':Operand→AV}
theorem Si{op:BinOp}{k:IntKind}{a b:Int}(h:∀v,K v→K' v)(c:DL op k a b K):DL op k a b K':=by
 cases op<;>simp only[DL]at c⊢<;>first|exact h _ c|exact⟨c.1,h _ c.2⟩|exact c
theorem Se{op:BinOp}{a b:ByteArray}(h:∀v,K v→K' v)(c:DK op a b K):DK op a b K':=by
 cases op<;>simp only[DK]at c⊢<;>first|exact h _ c|exact⟨c.1,h _ c.2⟩|exact c
theorem eP{op:BinOp}{k:IntKind}{a b:Int}(c:DL op k a b K):∃v,DL op k a b (fun y=>y=v)∧K v:=by
 cases op<;>simp only[DL]at c⊢<;>first|exact⟨_,rfl,c⟩|exact⟨_,⟨c.1,rfl⟩,c.2⟩|exact c.elim
theorem eC{op:BinOp}{a b:ByteArray}(c:DK op a b K):∃v,DK op a b (fun y=>y=v)∧K v:=by
 cases op<;>simp only[DK]at c⊢<;>first|exact⟨_,rfl,c⟩|exact⟨_,⟨c.1,rfl⟩,c.2⟩|exact c.elim
theorem cS(h:CA P H t x K):∃v,CA P H t x (fun y=>y=v)∧K v:=by
 unfold CA at h⊢
 split at h
 ·grind
 ·grind
 grind
theorem ZG{i:Nat}(h:CJ P H t i x K):∃v,CJ P H t i x (fun y=>y=v)∧K v:=by
 unfold CJ at h⊢
 grind
theorem bK{i:Nat}(h:CP P t i x K):∃v,CP P t i x (fun y=>y=v)∧K v:=by
 unfold CP at h⊢
 split at h
 ·split at h
  ·grind
  grind
 grind
theorem ZE(h:B7 P H t x y K):∃v,B7 P H t x y (fun y=>y=v)∧K v:=by
 unfold B7 at h⊢
 grind
theorem bc(h:Dd P t x y K):∃v,Dd P t x y (fun y=>y=v)∧K v:=by
 unfold Dd at h⊢
 grind
theorem eM{op:BinOp}{xs ys:List AV}(h:D7 P op t xs ys K):∃v,D7 P op t xs ys (fun y=>y=v)∧K v:=by
 unfold D7 at h⊢
 split at h
 ·grind
 grind
theorem eK{op:BinOp}(h:BA P H op t false x y K):∃v,BA P H op t false x y (fun y=>y=v)∧K v:=by
 unfold BA at h⊢
 split at h
 ·obtain⟨v,a,b⟩:=eP h.2;exact⟨v,⟨h.1,a⟩,b⟩
 ·exact eC h
 ·grind
 ·exact eM h
 ·cases h.1
 grind
theorem gL{op:UnOp}(h:CG op x K):∃v,CG op x (fun y=>y=v)∧K v:=by
 unfold CG at h⊢
 grind
theorem cq{u:TypeId}(h:CQ P t u x K):∃v,CQ P t u x (fun y=>y=v)∧K v:=by
 unfold CQ at h⊢
 grind
theorem aY{lo hi:Option AV}{a:Bool}(h:Cv P H t x lo hi a K):∃v,Cv P H t x lo hi a (fun y=>y=v)∧K v:=by
 unfold Cv at h⊢
 grind
theorem dG(h:B9 P H t x K):∃v,B9 P H t x (fun y=>y=v)∧K v:=by
 unfold B9 at h⊢
 grind
theorem bg{ps:List (Nat×AV)}(h:Dc P t ps K):∃v,Dc P t ps (fun y=>y=v)∧K v:=by
 unfold Dc at h⊢
 grind
theorem fd{op:Op}(g:∀o t x y u,op=.binOp o t x y u→Fq y=false)(h:AG P H op ρ K):∃v,AG P H op ρ (fun y=>y=v)∧K v:=by
 cases op<;>simp only[AG]at h⊢<;>try exact h.elim
 case move x=>exact⟨_,rfl,h⟩
 case assign x=>exact⟨_,rfl,h⟩
 case pick c a b=>
  split at h
  ·grind
  ·grind
 case load=>exact cS h
 case fieldAddr=>exact ZG h
 case field=>exact bK h
 case indexAddr=>exact ZE h
 case index=>exact bc h
 case extract=>
  split at h
  ·grind
  ·grind
 case binOp o t x y u=>
  rw[g _ _ _ _ _ rfl]at h⊢
  exact eK h
 case unOp=>exact gL h
 case convert=>exact cq h
 case nilCheck=>
  unfold FP at h⊢
  split at h
  ·grind
  ·grind
  ·grind
 case makeFunc=>exact⟨_,rfl,h⟩
 case makeInterface=>
  obtain⟨d,h⟩:=h
  repeat' split at h
  all_goals first|exact h.elim|exact⟨_,⟨d,rfl⟩,h⟩
 case typeAssert=>
  obtain⟨d,h⟩:=h
  repeat' split at h
  all_goals first|exact h.elim|exact⟨_,⟨d,h.1,h.2.1,rfl⟩,h.2.2⟩|exact⟨_,⟨d,rfl⟩,h⟩
 case slice=>exact aY h
 case build=>exact bg h
 case lookup=>exact dA h
 case call c=>
  split at h
  ·obtain⟨v,e,f⟩:=dG h.2;exact⟨v,⟨h.1,e⟩,f⟩
  ·split at h
   ·unfold Cr at h⊢
    grind
   ·unfold D8 at h⊢
    grind
   grind
  ·grind
theorem SI{op:Op}(e:∀o t x y u,op=.binOp o t x y u→Fq y=false){v:AV}(d:K v)(h:AG P H op ρ (fun y=>y=v)):AG P H op ρ K:=by
 have:(fun y=>y=v)=(fun y=>y=v∧K v):=by funext y;simp[d]
 rw[this]at h
 clear this d
 cases op<;>simp only[AG]at h⊢<;>try exact h.elim
 case move x=>exact h.1▸h.2
 case assign x=>exact h.1▸h.2
 case pick c a b=>
  split at h
  ·grind
  ·grind
 case load t x=>
  unfold CA at h⊢
  split at h
  ·grind
  ·grind
  ·grind
 case fieldAddr=>
  unfold CJ at h⊢
  split at h
  ·grind
  ·grind
  ·grind
 case field=>
  unfold CP at h⊢
  split at h
  ·split at h
   ·grind
   grind
  ·grind
 case indexAddr=>
  unfold B7 at h⊢
  split at h
  ·grind
  ·grind
  ·grind
  ·grind
  ·grind
 case index=>
  unfold Dd at h⊢
  split at h
  ·grind
  ·grind
 case makeInterface=>
  refine⟨h.1,?_⟩
  replace h:=h.2
  repeat' split at h
  all_goals first|exact h.elim|exact h.1▸h.2
 case typeAssert=>
  refine⟨h.1,?_⟩
  replace h:=h.2
  repeat' split at h
  all_goals first|exact h.elim|exact⟨h.1,h.2.1,h.2.2.1▸h.2.2.2⟩|exact h.1▸h.2
 case extract=>
  split at h
  ·grind
  ·grind
 case binOp o t x y u=>
  rw[e _ _ _ _ _ rfl]at h⊢
  unfold BA at h⊢
  split at h
  ·exact⟨h.1,Si (fun y (hy:y=v∧K v)=>hy.1▸hy.2) h.2⟩
  ·exact Se (fun y (hy:y=v∧K v)=>hy.1▸hy.2) h
  ·grind
  ·unfold D7 at h⊢
   split at h
   ·split at h
    ·grind
    grind
   grind
  ·cases h.1
  ·grind
 case unOp=>
  unfold CG at h⊢
  split at h<;>grind
 case nilCheck=>
  unfold FP at h⊢
  split at h
  ·grind
  ·grind
  ·grind
 case convert=>
  unfold CQ at h⊢
  split at h
  ·grind
  ·grind
  ·grind
 case makeFunc=>exact h.1▸h.2
 case slice=>
  unfold Cv at h⊢
  split at h
  ·grind
  ·grind
  ·grind
  ·grind
 case build=>
  unfold Dc at h⊢
  split at h
  ·grind
  ·grind
 case lookup=>exact Sg (fun y (hy:y=v∧K v)=>hy.1▸hy.2) h
 case call c=>
  split at h
  ·refine⟨h.1,?_⟩
   replace h:=h.2
   unfold B9 at h⊢
   grind
  ·split at h
   ·unfold Cr at h⊢
    grind
   ·unfold D8 at h⊢
    grind
   grind
  ·grind
theorem Oj{o:Oper}(h:BK o=true)(a:∀t len ps,o.op=.buildSlice t (len+1) ps→False):Bj o=true:=by
 unfold BK at h
 rw[YD]at h
 rcases h with h|h
 ·exact h
 ·exfalso
  unfold PD at h
  split at h
  ·rename_i e;exact a _ _ _ e
  ·simp at h
theorem NY{o:Oper}(a:BK o=true):∀b t x y u,o.op=.binOp b t x y u→Fq y=false:=by
 intro b t x y u h
 simp only[BK,PD,Bj,h,Bool.and_false,Bool.or_false,Yc,Y2]at a
 exact a.2
theorem SQ{o:Oper}{v:AV}(h:∀x∈o.op.operands,ρ x=ρ' x)(a:qV P l H o ρ v):qV P l H o ρ' v:=by
 obtain⟨j,op,type,pos,after,guard⟩:=o
 have arr:∀e:Array Operand,(∀x∈e,ρ x=ρ' x)→e.toList.map ρ=e.toList.map ρ':=fun e i=>Y1 fun x hx=>i x (by simpa using hx)
 cases op<;>simp only[Op.operands]at h<;>simp only[qV,AG]at a⊢<;>try exact a
 case call c=>
  have i:c.args.toList.map ρ=c.args.toList.map ρ':=arr _ fun x hx=>h x (by simp[Call.operands,hx])
  cases g:c.callee with
  |value f=>
   have w:ρ f=ρ' f:=h f (by simp[Call.operands,g])
   grind
  |invoke r m=>simp only[g]at a
  |builtin b=>
   simp only[g]at a⊢
   split at a
   ·rename_i x t u k s
    rw[←h x (by simp[Call.operands,g,MQ k])]
    exact a
   ·grind
   grind
 case build t ps=>
  have:(ps.toList.map fun p=>(p.1,ρ p.2))=ps.toList.map fun p=>(p.1,ρ' p.2):=Y1 fun p q=>by
   grind
  rw[←this];exact a
 case buildSlice t n ps=>
  cases n with
  |zero=>exact a
  |succ n=>
   have:(ps.toList.map fun p=>(p.1,ρ p.2))=ps.toList.map fun p=>(p.1,ρ' p.2):=Y1 fun p q=>by
    grind
   simp only at a⊢
   rw[←this];exact a
 case makeFunc fn first d=>
  rw[←arr first fun x hx=>h x (by simp[hx]),←arr d fun x hx=>h x (by simp[hx])];exact a
 case slice t x lo hi y=>
  rw[←h x (by simp),show lo.map ρ'=lo.map ρ from by cases lo<;>simp_all,show hi.map ρ'=hi.map ρ from by cases hi<;>simp_all];exact a
 all_goals(first|(simp_all;done))
theorem SP{o:Oper}{s:Nat→AV}{K:St→Prop}(a:BK o=true)(h:Dm P l n o K ⟨s,H⟩):∃d v,o.dst=some d∧d<n∧qV P l H o (ev s) v∧K ⟨upd s d v,H⟩:=by
 have k:∃d,o.dst=some d:=by
  have:o.dst.isSome=true:=by
   unfold BK Bj at a
   rw[YD,Yc,Yc]at a
   rcases a with h|h
   ·exact h.1
   ·exact h.1
  exact YM.1 this
 obtain⟨d,k⟩:=k
 have plain:AG P H o.op (ev s) (Bu n o.dst K ⟨s,H⟩)→(∀v,AG P H o.op (ev s) (fun y=>y=v)→qV P l H o (ev s) v)→∃d v,o.dst=some d∧d<n∧qV P l H o (ev s) v∧K ⟨upd s d v,H⟩:=fun h m=>by
  obtain⟨v,p,b⟩:=fd (NY a) h
  rw[k]at b
  exact⟨d,v,k,b.1,m v p,b.2⟩
 unfold Dm at h
 split at h
 ·rename_i x
  obtain⟨v,p,b⟩:=h
  rw[k]at b
  refine⟨d,v,k,b.1,?_,b.2⟩
  unfold qV
  rw[x]
  exact p
 ·rename_i c i
  replace a:Bj o=true:=Oj a fun t n ps e=>by rw[i]at e;cases e
  split at h
  ·rename_i f u
   simp only[]at h
   split at h
   ·rename_i g first z A
    obtain⟨r,p,b⟩:=h
    rw[k]at b
    refine⟨d,r,k,b.1,?_,b.2⟩
    simp only[qV,i,u,A]
    exact p
   ·exact h.elim
  ·rename_i u
   refine plain ?_ ?_
   ·unfold AW at h
    simp only[i]at h
    simp only[Bj,i,Yc]at a
    split at h
    ·rename_i f w;exact absurd w (u f)
    ·rename_i q;rw[q]at a;simp at a
    ·rw[i];exact h
   ·intro v m
    unfold qV
    rw[i]at m⊢
    cases j:c.callee with
    |value f=>exact absurd j (u f)
    |_=>simpa[j]using m
 ·rename_i q i
  replace a:Bj o=true:=Oj a fun t n ps e=>q _ _ _ e
  refine plain ?_ ?_
  ·unfold AW at h
   split at h
   ·rename_i he;simp[Bj,he]at a
   ·rename_i he;simp[Bj,he]at a
   ·rename_i he;simp[Bj,he]at a
   ·rename_i he;simp[Bj,he]at a
   ·rename_i he;simp[Bj,he]at a
   ·rename_i c he;exact absurd he (i c)
   ·exact h
  ·intro v m
   unfold qV
   split
   ·rename_i he;exact absurd he (q _ _ _)
   ·rename_i c he;exact absurd he (i c)
   ·exact m
theorem iy{o:Oper}{s:Nat→AV}{v:AV}{d:Nat}(q:BK o=true)(b:o.dst=some d)(a:d<n)(h:qV P l H o (ev s) v):Br P l n B o (fun E=>E=⟨upd s d v,H⟩) ⟨s,H⟩:=by
 unfold qV at h
 split at h
 ·rename_i t len parts k
  obtain⟨e,sz,z,G,i,j,u,w,x,y,A,rfl⟩:=h
  exact RP k b i j u w x y A a rfl
 ·rename_i c C
  split at h
  ·rename_i f p
   split at h
   ·rename_i g first m D
    refine SY C p D (h.mono fun r F ⟨i,j⟩=>?_)
    subst i;subst j
    rw[b]
    exact⟨a,rfl⟩
   grind
  ·rename_i p
   exact KD (SI (NY q) (by rw[b];exact⟨a,rfl⟩) h)
 ·exact KD (SI (NY q) (by rw[b];exact⟨a,rfl⟩) h)
end
section
variable {P:Program} {l n:Nat} {B:Base} {H:Hp} {ops:Array Oper} {md:Region.Mode} {Q:(Nat→AV)→Prop}
def YA(P:Program)(l:Nat)(H:Hp)(ops:Array Oper)(o:Oper)(s:Nat→AV)(v:AV):Prop:=
 match o.guard with
 |none=>qV P l H o (ev s) v
 |some (i,b)=>match ET s (ops.toList.map (·.dst)) i b with
  |some t=>(t=true→qV P l H o (ev s) v)∧(t=false→v=.tup [])
  |none=>False
theorem TY{o:Oper}{s:Nat→AV}{v u:AV}{d:Nat}(k:d∉o.looksAt ops)(h:YA P l H ops o (upd s d u) v):YA P l H ops o s v:=by
 have f:∀x∈o.op.operands,ev (upd s d u) x=ev s x:=fun x hx=>by
  cases x with
  |tmp t=>
   have c:t≠d:=fun e=>k (by
    subst e
    exact Gb _ (List.mem_filterMap.2 ⟨.tmp t,by simpa using hx,rfl⟩))
   simp[ev,upd,c]
  |_=>rfl
 unfold YA at*
 cases j:o.guard with
 |none=>simp only[j]at h⊢;exact SQ f h
 |some m=>
  obtain⟨i,b⟩:=m
  simp only[j]at h⊢
  have g:ET (upd s d u) (ops.toList.map (·.dst)) i b=ET s (ops.toList.map (·.dst)) i b:=by
   unfold ET
   simp only[Yv,Yu]
   cases n:ops[i]? with
   |none=>rfl
   |some p=>
    cases a:p.dst with
    |none=>simp[a]
    |some t=>
     have c:t≠d:=fun e=>k (by subst e;simp[Oper.looksAt,j,n,a])
     simp[a,upd,c]
  rw[g]at h
  split at h
  ·rename_i t q
   exact⟨fun e=>SQ f (h.1 e),h.2⟩
  ·exact h
theorem fq{o:Oper}{s:Nat→AV}{v u:AV}{d:Nat}(a:d∉o.looksAt ops)(h:YA P l H ops o s v):YA P l H ops o (upd s d u) v:=by
 refine TY (d:=d) (u:=s d) a ?_
 have:upd (upd s d u) d (s d)=s:=by funext j;unfold upd;split<;>simp_all
 grind
theorem dW{s:Nat→AV}{d e:Nat}{u v:AV}(h:d≠e):upd (upd s d u) e v=upd (upd s e v) d u:=by
 funext j
 unfold upd
 grind
end
def HK(P:Program)(t:TypeId)(i:Nat):Option (Nat×Nat×Bool):=
 match P.underlying t with
 |some (.struct a)=>(a[i]?).bind fun f=>(B1 P f.type).map fun b=>(f.offset,P.cellsOf f.type,b)
 |_=>none
def Jw(o:Option (Nat×Nat×Bool))(x:AV)(K:AV→Prop):Prop:=
 match o,x with
 |some (o,n,true),.agg cs=>n≠0∧K (.agg ((cs.drop o).take n))
 |some (o,_,false),.agg cs=>(match cs[o]? with|some c=>K c|none=>False)
 |_,_=>False
theorem cE{P:Program}{t:TypeId}{i:Nat}{x:AV}{K:AV→Prop}:CP P t i x K=Jw (HK P t i) x K:=by
 unfold CP HK
 cases x with
 |agg cs=>
  cases j:P.underlying t with
  |none=>rfl
  |some d=>
   cases d with
   |struct a=>
    simp only
    cases g:a[i]? with
    |none=>rfl
    |some f=>
     simp only[Yg]
     cases c:B1 P f.type with
     |none=>rfl
     |some b=>cases b<;>rfl
   |_=>rfl
 |_=>
  have e:∀(o:Option (Nat×Nat×Bool)) (y:AV),(∀cs,y≠.agg cs)→Jw o y K=False:=fun o y h=>by
   unfold Jw
   grind
  grind
structure fins (P:Program) (l:Nat) (H:Hp) (rs:List ResultVar) (Post:AV→Hp→Prop) (e:Exit) (σ:St):Prop where
 he:e=.normal∨e=.ret
 hy:CC P σ rs (fun xs=>∃y,Fz σ.H l (B4 xs) y∧Post y (EU l σ.H H))
inductive Fit:D→Prop
 |int (k:IntKind) (n:Int):Fit (.int k n)
 |bool (b:Bool):Fit (.bool b)
 |str (s:ByteArray) (h:s.size<2147483648):Fit (.str s)
 |list (es:List (List D)) (hl:es.length<2147483648) (h:∀e∈es,∀x∈e,Fit x):Fit (.list es)
def GF(l:List D):Prop:=∀d∈l,Fit d
theorem Fit.len{α:Type}{e:α→List D}{xs:List α}(h:Fit (.list (xs.map e))):xs.length<2147483648:=by
 cases h with|list _ hl h=>simpa using hl
theorem Fit.mem{α:Type}{e:α→List D}{xs:List α}(h:Fit (.list (xs.map e))){x:α}(hx:x∈xs):GF (e x):=by
 cases h with|list _ hl h=>exact h _ (MN hx)
theorem Fit.el{α:Type}{e:α→List D}{xs:List α}(h:Fit (.list (xs.map e))){i:Nat}{x:α}(hx:xs[i]?=some x):GF (e x):=h.mem (Yi hx)
theorem GF.at{l:List D}(h:GF l)(i:Nat){d:D}(hi:l[i]?=some d):Fit d:=h d (Yi hi)
theorem GF.sub{l:List D}(h:GF l)(i n:Nat){m:List D}(hi:(l.drop i).take n=m):GF m:=by
 subst hi
 exact fun d a=>h d (JW (List.mem_of_mem_take a))
def nrm:AV→AV
 |.e0=>.d (.list [])
 |.agg xs=>.agg (xs.map fun x=>match x with|.e0=>.d (.list [])|x=>x)
 |x=>x
section
variable {P:Program} {l n:Nat} {B:Base} {H H':Hp} {K:St→Prop} {σ σ':St} {Q:Exit→St→Prop} {s:Nat→AV} {ds:List (Option Nat)} {d:Option Nat} {op:Op} {ty:TypeId} {ps:String} {af:Array Edge} {rest:List Oper}
 {g:Option (Nat×Bool)} {x y:Operand} {t:TypeId}
theorem Oe{a b:Code}(h:A0 P l n B a (UV (A0 P l n B b Q) Q) σ):A0 P l n B (.seq a b) Q σ:=gP fun _ c=>Et h fun e σ' h=>by
 cases e<;>first|exact c σ' h|exact h
theorem Hi{a:Int}{i:Nat}(h:a=(i:Int))(hi:i<9223372036854775808):IntKind.wrap .i64 a=(i:Int):=by
 subst h
 exact IntWalk.i64_in _ ⟨by omega,by omega⟩
theorem dP{f:FuncId}{fn:Func}(g:List ResultVar){c:Code}{xs:List AV}{a:AV→Hp→Prop}(j:P.funcs[f]?=some fn)(i:fn.body=some c)(b:(fn.name== "runtime.NumGoroutine")=false)
  (k:fn.ntmps=n) (m:fn.results.toList=g) (hx:xs.length≤n) (h:∀B:Base,A0 P l n B c (fins P l H g a) ⟨args xs,BP l H⟩):Zbb P f l xs H a:=by
 refine de j i b k hx fun B=>Et (h B) fun e σ d=>?_
 unfold WU
 rw[m]
 exact⟨d.he,d.hy⟩
theorem Fz.data{xs:List D}:Fz H' l (.agg (xs.map .d)) (.agg (xs.map .d)):=
 .agg _ _ rfl fun i x y hx hy=>by
  rw[hx]at hy;cases hy
  rw[Yv]at hx
  cases hi:xs[i]? with
  |none=>rw[hi]at hx;cases hx
  |some d=>rw[hi]at hx;cases hx;exact .keep _ rfl
theorem Fz.pure{xs:List AV}{ds:List D}(h:BX xs=some ds):Fz H' l (.agg xs) (.agg (ds.map .d)):=
 .agg _ _ (by rw[YH];exact NQ h) fun i x y hx hy=>by
  rw[Yv]at hy
  cases hi:ds[i]? with
  |none=>rw[hi]at hy;cases hy
  |some d=>
   rw[hi]at hy;cases hy
   have:=S7 h hx hi
   cases x<;>simp only[DG]at this<;>cases this
   ·exact .keep _ rfl
   ·exact .e0
theorem Fz.d'{x:AV}{y:D}(h:x=.d y):Fz H' l x (.d y):=by subst h;exact .keep _ rfl
theorem Fz.two{x y x' e:AV}(hx:Fz H' l x x')(hy:Fz H' l y e):Fz H' l (B4 [x,y]) (.tup [x',e]):=
 .tup _ _ rfl fun i a b c d=>by
  match i with
  |0=>cases c;cases d;exact hx
  |1=>cases c;cases d;exact hy
  |i+2=>simp at c
theorem Fz.one{x x':AV}(hx:Fz H' l x x'):Fz H' l (B4 [x]) x':=hx
theorem RepA.nrm{S:Nat→Prop}{m:Mu}{w:World}{x:AV}{v:Value}(h:RepA w S H m l x v):RepA w S H m l (nrm x) v:=by
 cases x with
 |e0=>exact h.e0_d
 |agg xs=>
  cases h with
  |agg _ vs hx a h=>
   refine .agg _ _ (by simpa using hx) a (fun i y v hy b=>?_)
   rw[Yv]at hy
   cases hi:xs[i]? with
   |none=>rw[hi]at hy;cases hy
   |some x=>
    rw[hi]at hy
    simp only[YQ,Yh]at hy
    subst hy
    have:=h i x v hi b
    split
    ·exact this.e0_d
    grind
 |_=>exact h
theorem Zbb.nrm{f:FuncId}{xs:List AV}{a:AV→Hp→Prop}(h:Zbb P f l (xs.map nrm) H a):Zbb P f l xs H a:=
 ⟨h.1,fun m S w vs c b=>h.2 m S w vs c ⟨by simpa using b.1,fun i x v hx d=>by
  rw[Yv]at hx
  cases hi:xs[i]? with
  |none=>rw[hi]at hx;cases hx
  |some y=>
   rw[hi]at hx
   simp only[YQ,Yh]at hx
   subst hx
   exact(b.2 i y v hi d).nrm⟩⟩
end
def I3:List Operand→List Nat
 |[]=>[]
 |.tmp t::r=>t::I3 r
 |_::r=>I3 r
def HT:List (Option Nat)→Nat→Option Nat
 |[],_=>none
 |x::_,0=>x
 |_::r,i+1=>HT r i
def Dh(ds:List (Option Nat))(o:Oper):List Nat:=
 I3 o.op.operands.toList++match o.guard with
  |some (g,_)=>(match HT ds g with|some d=>[d]|none=>[])
  |none=>[]
def Dg:List (Nat×Nat)→Nat→Option Nat
 |[],_=>none
 |(d,k)::r,t=>match Nat.beq d t with|true=>some k|false=>Dg r t
def Bc(o:Oper)(i:Nat):Bool:=o.after.toList.any fun e=>Region.binds .any e&&Nat.beq e.on i
def clear(o:Oper)(d:Nat):List (Nat×Nat)→Bool
 |[]=>true
 |(t,i)::r=>(match Nat.beq t d with|true=>Bc o i|false=>true)&&clear o d r
theorem S8{o:Oper}{d i:Nat}:∀{l:List (Nat×Nat)},clear o d l=true→(d,i)∈l→Bc o i=true
 |[],_,h=>by cases h
 |(t,j)::r,a,h=>by
  simp only[clear,Yc]at a
  rcases YJ.1 h with h|h
  ·cases h
   have:=a.1
   rw[J5]at this
   exact this
  ·exact S8 a.2 h
def Hy(ds:List (Option Nat)):Nat→List (Nat×Nat)→List (Nat×Nat)→List Oper→Bool
 |_,_,_,[]=>true
 |k,seen,looked,o::r=>
  (o.after.toList.all fun e=>!Region.binds .any e||Nat.ble (e.on+1) k)&&
  ((Dh ds o).all fun t=>match Dg seen t with|some i=>Bc o i|none=>true)&&
  match o.dst with
  |some d=>(Dg seen d).isNone&&clear o d looked&&Hy ds (k+1) ((d,k)::seen) ((Dh ds o).map (·,k)++looked) r
  |none=>Hy ds (k+1) seen ((Dh ds o).map (·,k)++looked) r
def Ln:List Oper→Bool
 |[]=>true
 |o::r=>(match o.op with|.select _ _=>false|_=>true)&&Ln r
def Lq(ops:List Oper):Bool:=Ln ops&&Hy (ops.map (·.dst)) 0 [] [] ops
theorem cA(xs:List Operand):I3 xs=xs.filterMap fun|.tmp t=>some t|_=>none:=by
 induction xs with
 |nil=>rfl
 |cons x xs a=>cases x<;>simp[I3,a]
theorem Tx:∀(ds:List (Option Nat)) (i:Nat),HT ds i=(ds[i]?).join
 |[],i=>by simp[HT]
 |x::r,0=>by simp[HT]
 |x::r,i+1=>by simp[HT,Tx r i]
theorem SE(ops:List Oper)(o:Oper):Dh (ops.map (·.dst)) o=o.looksAt ops.toArray:=by
 unfold Dh Oper.looksAt
 rw[cA]
 congr 1
 cases d:o.guard with
 |none=>rfl
 |some a=>
  obtain⟨g,b⟩:=a
  simp only
  rw[Tx,Yv]
  simp only[QT]
  cases ops[g]? with
  |none=>rfl
  |some c=>simp only[YQ,Option.join_some,Yg];cases c.dst<;>rfl
structure FInv (ds:List (Option Nat)) (pre:List Oper) (seen:List (Nat×Nat)) (looked:List (Nat×Nat)):Prop where
 s1:∀d i,Dg seen d=some i→∃o,pre[i]?=some o∧o.dst=some d
 s2:∀(i:Nat) (o:Oper) (d:Nat),pre[i]?=some o→o.dst=some d→Dg seen d=some i
 lo:∀(i:Nat) (o:Oper),pre[i]?=some o→∀t∈Dh ds o,(t,i)∈looked
def KV(ds:List (Option Nat))(x y:Oper):Prop:=(∀d,x.dst=some d→d∉Dh ds y∧y.dst≠some d)∧(∀d,y.dst=some d→d∉Dh ds x)
theorem RW(ds:List (Option Nat)):∀(q pre:List Oper) (seen looked:List (Nat×Nat)),FInv ds pre seen looked→Hy ds pre.length seen looked q=true→
  ∀(j:Nat) (n:Oper),q[j]?=some n→(∀e∈n.after,Region.binds .any e=true→e.on<pre.length+j)∧
   ∀(i:Nat) (m:Oper),i<pre.length+j→(pre++q)[i]?=some m→Bc n i=true∨KV ds m n
 |[],pre,seen,looked,u,h,j,n,A=>by simp at A
 |o::r,pre,seen,looked,u,h,j,n,A=>by
  simp only[Hy,Yc]at h
  obtain⟨⟨G,H⟩,s⟩:=h
  cases j with
  |zero=>
   simp only[YV,Yh]at A
   subst A
   refine⟨fun e he D=>?_,fun i m hi f=>?_⟩
   ·have:=Yo.1 G e (by simpa using he)
    simp only[D,YR,M5]at this
    have:=Yd this
    omega
   ·rw[Yn (by omega)]at f
    by_cases z:Bc o i=true
    ·exact .inl z
    ·right
     refine⟨fun d v=>⟨fun hm=>?_,fun g=>?_⟩,fun d v hm=>?_⟩
     ·have:=Yo.1 H d hm
      rw[u.s2 i m d f v]at this
      exact z this
     ·rw[g]at s
      simp only[Yc]at s
      have:=s.1.1
      rw[u.s2 i m d f v]at this
      cases this
     ·rw[v]at s
      simp only[Yc]at s
      exact z (S8 s.1.2 (u.lo i m f d hm))
  |succ j=>
   simp only[G4]at A
   have p:∀(c:List (Nat×Nat)),(∀d i,Dg c d=some i→∃l,(pre++[o])[i]?=some l∧l.dst=some d)→(∀(i:Nat) (l:Oper) (d:Nat),(pre++[o])[i]?=some l→l.dst=some d→Dg c d=some i)→
     FInv ds (pre++[o]) c ((Dh ds o).map (·,pre.length)++looked):=fun c a b=>⟨a,b,fun i l f t F=>by
    rcases Ik i pre.length with k|heq|B
    ·rw[Yn k]at f;exact List.mem_append_right _ (u.lo i l f t F)
    ·subst heq;simp at f;subst f;exact Gb _ (YO.2 ⟨t,F,rfl⟩)
    ·rw[YE (by simp;omega)]at f;cases f⟩
   have fin:∀c,FInv ds (pre++[o]) c ((Dh ds o).map (·,pre.length)++looked)→Hy ds (pre.length+1) c ((Dh ds o).map (·,pre.length)++looked) r=true→_:=fun c C J=>
    RW ds r (pre++[o]) c ((Dh ds o).map (·,pre.length)++looked) C (by simpa using J) j n A
   have conv:(∀e∈n.after,Region.binds .any e=true→e.on<(pre++[o]).length+j)∧(∀(i:Nat) (m:Oper),i<(pre++[o]).length+j→(pre++[o]++r)[i]?=some m→Bc n i=true∨KV ds m n)→
     (∀e∈n.after,Region.binds .any e=true→e.on<pre.length+(j+1))∧(∀(i:Nat) (m:Oper),i<pre.length+(j+1)→(pre++o::r)[i]?=some m→Bc n i=true∨KV ds m n):=by
    rintro⟨a,b⟩
    simp only[YB,Y4,Fe,Ej,JZ,Em]at a b
    exact⟨fun e he D=>by have:=a e he D;omega,fun i m hi f=>b i m (by omega) f⟩
   split at s
   ·rename_i d v
    simp only[Yc]at s
    obtain⟨⟨E,K⟩,I⟩:=s
    have y:Dg seen d=none:=by cases w:Dg seen d with|none=>rfl|some i=>rw[w]at E;cases E
    refine conv (fin _ (p ((d,pre.length)::seen) (fun d' i w=>?_) (fun i l d' f g=>?_)) I)
    ·simp only[Dg]at w
     split at w
     ·rename_i he;cases w;rw[←Ya he];exact⟨o,by simp,v⟩
     ·obtain⟨l,a,b⟩:=u.s1 d' i w
      refine⟨l,?_,b⟩
      rw[Yn];exact a
      rcases Yw i pre.length with k|x
      ·exact k
      ·rw[YE x]at a;cases a
    ·simp only[Dg]
     rcases Ik i pre.length with k|heq|B
     ·rw[Yn k]at f
      have:=u.s2 i l d' f g
      split
      ·rename_i he
       rw[←Ya he,y]at this;cases this
      ·exact this
     ·subst heq;simp at f;subst f;rw[v]at g;cases g;simp
     ·rw[YE (by simp;omega)]at f;cases f
   ·rename_i v
    refine conv (fin _ (p seen (fun d' i w=>?_) (fun i l d' f g=>?_)) s)
    ·obtain⟨l,a,b⟩:=u.s1 d' i w
     refine⟨l,?_,b⟩
     rw[Yn];exact a
     rcases Yw i pre.length with k|x
     ·exact k
     ·rw[YE x]at a;cases a
    ·rcases Ik i pre.length with k|heq|B
     ·rw[Yn k]at f;exact u.s2 i l d' f g
     ·subst heq;simp at f;subst f;rw[v]at g;cases g
     ·rw[YE (by simp;omega)]at f;cases f
theorem Z8{ops:List Oper}{x y:Oper}(h:KV (ops.map (·.dst)) x y):x.apart ops.toArray y=true:=by
 obtain⟨a,c⟩:=h
 rw[SE]at c
 have b:∀d,x.dst=some d→d∉y.looksAt ops.toArray∧y.dst≠some d:=fun d e=>by have:=a d e;rw[SE]at this;exact this
 unfold Oper.apart
 grind
theorem RR{ops:Array Oper}(l:∀(j:Nat) (b:Oper),ops[j]?=some b→∀e∈b.after,Region.binds .any e=true→e.on<j)
  (m:∀(i j:Nat) (n b:Oper),i<j→ops[i]?=some n→ops[j]?=some b→Bc b i=true∨n.apart ops b=true):
  ∀(fuel k:Nat) (listed:Array Bool),fuel+k=ops.size→listed.size=ops.size→(∀j,j<ops.size→listed[j]?=some (decide (j<k)))→Region.lexFrom .any ops fuel k listed=true
 |0,k,listed,p,hs,hl=>by
  simp only[Region.lexFrom]
  rw[List.isEmpty_iff,Region.ready,List.filter_eq_nil_iff]
  intro i hi
  have hi:=JU.1 hi
  have:=hl i hi
  simp[Yp,this]
  omega
 |fuel+1,k,listed,p,hs,hl=>by
  have f:k<ops.size:=by omega
  have a:ops[k]?=some ops[k]:=Ym f
  simp only[Region.lexFrom,Yc]
  refine⟨⟨?_,?_⟩,RR l m fuel (k+1) _ (by omega) (by simp[hs]) (fun j c=>?_)⟩
  ·rw[List.contains_iff_mem]
   unfold Region.ready
   refine JR.2 ⟨JU.2 f,?_⟩
   rw[Yc]
   refine⟨by simp[Yp,hl k f],?_⟩
   rw[a]
   simp only[YQ,Fc]
   rw[Array.all_eq_true_iff_forall_mem]
   intro e he
   by_cases o:Region.binds .any e=true
   ·have:=l k _ a e he o
    simp[Yp,hl e.on (by omega),this]
   grind
  ·unfold Region.free
   rw[a]
   simp only[Yo,JU]
   intro j c
   rw[YD,YD]
   rcases Ik j k with g|heq|d
   ·left;right;simp[Yp,hl j c,g]
   ·grind
   ·right
    rw[Ym c]
    simp only
    rw[YD]
    rcases m k j _ _ d a (Ym c)with h|h
    ·left
     unfold Bc at h
     obtain⟨e,he,h⟩:=YX.1 h
     rw[←Array.any_toList]
     exact YX.2 ⟨e,he,by simpa using h⟩
    grind
  grind
theorem Sa{ops:List Oper}(h:Lq ops=true):Region.lexB .any ops.toArray=true:=by
 unfold Lq at h
 rw[Yc]at h
 have g:∀(l:List Oper),Ln l=true→l.all (fun o=>match o.op with|.select ..=>false|_=>true)=true:=fun l=>by
  induction l with
  |nil=>intro _;rfl
  |cons o l p=>
   intro m
   simp only[Ln,Yc]at m
   grind
 have key:=RW (ops.map (·.dst)) ops [] [] [] ⟨fun d i k=>by simp[Dg]at k,fun i o d e=>by simp at e,fun i o e=>by simp at e⟩ h.2
 simp only[Fe,YL,Em]at key
 unfold Region.lexB
 rw[Yc]
 refine⟨?_,RR (fun j f b=>(key j f (by simpa using b)).1) (fun i j n f c hi b=>?_) _ 0 _ rfl (by simp) (fun j b=>by simp at b⊢;simp[b])⟩
 ·unfold Region.noSelect
  grind
 ·rcases(key j f (by simpa using b)).2 i n c (by simpa using hi)with a|a
  ·grind
  ·exact .inr (Z8 a)
structure TI where
 agg:Bool:=false
 kin:Nat:=0
 siz:Nat:=1
 elm:Option (Nat×Nat):=none
 fld:List (Nat×Nat×Bool):=[]
 zer:Option (List AV):=none
 eqt:Option (List Nat):=none
 str:Bool:=false
 ik:Option IntKind:=none
 byt:Option Nat:=none
 mp:Option (Bool×List D):=none
 arr:Option (Nat×Nat):=none
def AV.flat:AV→Bool
 |.d _|.e0|.p _|.iptr _ _=>true
 |_=>false
structure TIok (P:Program) (t:TypeId) (i:TI):Prop where
 agg:B1 P t=some i.agg
 kin:kin P t=i.kin
 siz:P.cellsOf t=i.siz
 elm:∀e,i.elm=some e→Go.Eng.elm P t=some e
 fld:∀(j:Nat) (x:Nat×Nat×Bool),i.fld[j]?=some x→Go.Eng.fld P t j=some (x.1,x.2.1)∧HK P t j=some x
 zer:∀z,i.zer=some z→Go.Eng.zer P t=some z
 eqt:∀z,i.eqt=some z→H3 P t=some z
 str:i.str=true→FH P t=true
 ik:∀z,i.ik=some z→P.underlying t=some (.int z)
 byt:∀z,i.byt=some z→P.bytesOf t≤z∧P.bytesOf t≠0
 flt:∀z,i.zer=some z→z.all AV.flat=true
 mp:∀z,i.mp=some z→HY P t=some z
 arr:Dn P t=i.arr
def AJ(P:Program)(T:Nat→Option TI):Prop:=∀t i,T t=some i→TIok P t i
inductive AT where
 |nil
 |go (r:AT)
 |av (x:AV) (r:AT)
 |cs (c:List AV) (r:AT)
 |ds (e:List D) (r:AT)
 |num (n:Int) (r:AT)
 |nat (n:Nat) (r:AT)
 |call (x:AV) (ks:List Aa) (r:AT)
 |callH (x:AV) (ks:List Aa) (hb:List (Aa×List AV)) (r:AT)
 |br (a b:AT)
 |frz (d:Nat) (js:List (Nat×List (List D))) (cs:List (Aa×Nat×List (List D))) (r:AT)
 |adc (k:Aa) (i d:Nat) (e:TypeId) (sz:Nat) (r:AT)
 |mv (d j:Nat) (r:AT)
 |ads (j d:Nat) (e:TypeId) (sz:Nat) (r:AT)
 |trim (k:Aa) (c:List AV) (r:AT)
 |reb (j d m:Nat) (c:List AV) (r:AT)
 |sep (r:AT)
 |hard (x:AV) (ks:List Aa) (hb:List (Aa×Blk)) (fr:List Aa) (r:AT)
 |ents (es:List (List D)) (r:AT)
 |all (a:AT) (f:Nat→AT)
 |fzm (d:Nat) (js:List Nat) (r:AT)
 |fzb (d:Nat) (js:List Nat) (r:AT)
 |rnm (d d' e i:Nat) (r:AT)
 |mvc (d q e i:Nat) (r:AT)
 |one (v:Bool) (r:AT)
structure Ren where
 κ:Aa→Aa
 γ:Aa→Nat
 θ:Nat→AV
 H0:Hp
 no:Aa→Prop
mutual
def ren(r:Ren):AV→AV
 |.ref k g off n=>.ref (r.κ k) (r.γ k+g) off n
 |.ptr k g off=>.ptr (r.κ k) (r.γ k+g) off
 |.mp k g=>.mp (r.κ k) (r.γ k+g)
 |.fn f xs ys=>match f with
  |.yield i=>r.θ i
  |f=>.fn f (Ae r xs) (Ae r ys)
 |.agg xs=>.agg (Ae r xs)
 |.tup xs=>.tup (Ae r xs)
 |.top=>.top
 |.d x=>.d x
 |.e0=>.e0
 |.p x=>.p x
 |.iptr cs off=>.iptr cs off
 |.ifc t ds a=>.ifc t ds a
def Ae(r:Ren):List AV→List AV
 |[]=>[]
 |x::xs=>ren r x::Ae r xs
end
def Ao(r:Ren)(k:Aa)(b:Blk):Blk:=⟨r.γ k+b.g,true,b.e,b.sz,Ae r b.cells⟩
theorem C9{r:Ren}(xs:List AV):Ae r xs=xs.map (ren r):=by
 induction xs with
 |nil=>simp[Ae]
 |cons x xs a=>simp[Ae,a]
theorem Bw{r:Ren}(xs:List AV):(Ae r xs).length=xs.length:=by rw[C9,YH]
theorem DW{r:Ren}(xs ys:List AV):Ae r (xs++ys)=Ae r xs++Ae r ys:=by simp[C9]
theorem CM{r:Ren}(xs:List AV)(n:Nat):(Ae r xs).drop n=Ae r (xs.drop n):=by simp[C9]
theorem C7{r:Ren}(xs:List AV)(n:Nat):(Ae r xs).take n=Ae r (xs.take n):=by simp[C9]
theorem Ex{r:Ren}(xs:List AV)(n:Nat):(Ae r xs)[n]?=(xs[n]?).map (ren r):=by simp[C9]
theorem Fp{r:Ren}(xs:List D):Ae r (xs.map .d)=xs.map .d:=by
 induction xs with
 |nil=>simp[Ae]
 |cons x xs a=>simp only[Y3,Ae,ren,a]
theorem dn{r:Ren}{xs:List AV}(h:xs≠[]):Ae r xs≠[]:=by cases xs<;>simp_all[Ae]
def B3(r:Ren)(H a:Hp):Prop:=∀k,(H k).live=true→a (r.κ k)=Ao r k (H k)
def AR{α:Type}:List α→Nat→Option α
 |[],_=>none
 |x::_,0=>some x
 |_::xs,i+1=>AR xs i
theorem Bi{α:Type}:∀(xs:List α) (i:Nat),AR xs i=xs[i]?
 |[],i=>by simp[AR]
 |x::xs,0=>by simp[AR]
 |x::xs,i+1=>by simp[AR,Bi xs i]
def Fx{α:Type}:Nat→List α→Option (List α)
 |0,_=>some []
 |n+1,x::xs=>match Fx n xs with|some r=>some (x::r)|none=>none
 |_+1,[]=>none
theorem Ol{α:Type}:∀(n:Nat) (xs r:List α),Fx n xs=some r→xs.take n=r∧n≤xs.length
 |0,xs,r,h=>by simp only[Fx,Yh]at h;subst h;simp
 |n+1,[],r,h=>by simp[Fx]at h
 |n+1,x::xs,r,h=>by
  simp only[Fx]at h
  split at h
  ·rename_i q a
   cases h
   obtain⟨b,c⟩:=Ol n xs q a
   grind
  ·cases h
def A5(H:Hp)(k:Aa)(g:Nat):Bool:=Nat.beq g (H k).g&&(H k).live
theorem Ct{H:Hp}{k:Aa}{g:Nat}(h:A5 H k g=true):g=(H k).g∧(H k).live=true:=by
 simp only[A5,Yc]at h
 exact⟨Ya h.1,h.2⟩
theorem B3.at{r:Ren}{H a:Hp}(h:B3 r H a){k:Aa}{g:Nat}(hl:A5 H k g=true):r.γ k+g=(a (r.κ k)).g∧(a (r.κ k)).live=true∧(a (r.κ k)).e=(H k).e∧(a (r.κ k)).sz=(H k).sz∧(a (r.κ k)).cells=Ae r (H k).cells:=by
 obtain⟨b,c⟩:=Ct hl
 rw[h k c]
 subst b
 exact⟨rfl,rfl,rfl,rfl,rfl⟩
def AP(g:Option Bool)(S:Prop):Prop:=
 match g with
 |none=>S
 |some b=>b=true→S
theorem AU{g:Option Bool}{S:Prop}(a:∀b,g=some b→b=true)(h:AP g S):S:=by
 unfold AP at h
 grind
def DX(cs:List AV)(off:Nat)(c:List AV):Prop:=(cs.drop off).take c.length=c
def FC(a:List (List D))(n:Int)(e:List D):Prop:=0≤n∧a[n.toNat]?=some e
def HJ(n:Int)(len off sz o:Nat):Prop:=0≤n∧n<len∧(off+n.toNat)*sz=o
def Xc(s:ByteArray)(n b:Int):Prop:=0≤n∧∃x:UInt8,s.data.toList[n.toNat]?=some x∧b=x.toNat
def Bp(k:IntKind)(a r:Int):Prop:=k.wrap a=r
def AZ(a b:Int):Prop:=a=b
def JP(a b:Int):Prop:=a≠b
def JO(a b:Int):Prop:=a≤b
def W4(a b:ByteArray):Prop:=a.size+b.size≤9223372036854775807
def Cg(dflt:Nat)(o:Option AV)(l:Nat):Prop:=
 match o with
 |none=>l=dflt
 |some (.d (.int _ n))=>n=l
 |_=>False
def Ds(l h n:Nat):Prop:=l≤h∧h≤n
def JQ(es:List (List D))(sz l h:Nat)(a:List (List D)):Prop:=(∀e,e∈es→e.length=sz)∧(es.drop l).take (h-l)=a
def MK(off l h o n:Nat):Prop:=off+l=o∧h-l=n
def Pd(t:Bool)(a b:AV):AV:=
 match a,b with
 |.d (.bool x),.d (.bool y)=>.d (.bool (cond t x y))
 |a,b=>cond t a b
theorem eG(t:Bool)(a b:AV):Pd t a b=if t then a else b:=by
 unfold Pd
 grind
def HE(i:TI)(H:Hp)(x:AV)(g:Option Bool)(a:AT)(K:AV→AT→Prop):Prop:=
 match x with
 |.iptr cs off=>match i.agg with
  |true=>match Nat.ble 1 i.siz,Fx i.siz (cs.drop off)with|true,some c=>K (.agg (c.map .d)) a|_,_=>False
  |false=>match AR cs off with|some c=>K (.d c) a|none=>False
 |.ptr k q off=>match A5 H k q with
  |true=>match a with
   |.go r=>(match i.agg with
    |true=>match Nat.ble 1 i.siz,Fx i.siz ((H k).cells.drop off)with|true,some c=>K (.agg c) r|_,_=>False
    |false=>match AR (H k).cells off with|some c=>K c r|none=>False)
   |.cs c r=>(match i.agg with
    |true=>match Nat.ble 1 i.siz,Nat.beq c.length i.siz with|true,true=>AP g (DX (H k).cells off c)∧K (.agg c) r|_,_=>False
    |false=>match c with|[x]=>AP g (DX (H k).cells off [x])∧K x r|_=>False)
   |_=>False
  |false=>False
 |_=>False
def Ki(i:TI)(H:Hp)(f:Nat)(x:AV)(a:AT)(K:AV→AT→Prop):Prop:=
 match AR i.fld f with
 |some (o,n,_)=>match Nat.ble 1 n with
  |true=>(match x with
   |.iptr cs off=>K (.iptr cs (off+o)) a
   |.ptr k q off=>match A5 H k q with|true=>K (.ptr k q (off+o)) a|false=>False
   |_=>False)
  |false=>False
 |none=>False
def KW(i:TI)(f:Nat)(x:AV)(a:AT)(K:AV→AT→Prop):Prop:=
 match AR i.fld f,x with
 |some (o,n,true),.agg cs=>(match Nat.ble 1 n with|true=>K (.agg ((cs.drop o).take n)) a|false=>False)
 |some (o,_,false),.agg cs=>(match AR cs o with|some c=>K c a|none=>False)
 |_,_=>False
def Kk(i:TI)(H:Hp)(x j:AV)(g:Option Bool)(a:AT)(K:AV→AT→Prop):Prop:=
 match i.elm,j with
 |some (_,sz),.d (.int _ n)=>(match x,a with
  |.d (.list b),.ds e r=>(match Nat.beq e.length sz,Nat.ble 1 sz with|true,true=>AP g (FC b n e)∧K (.iptr e 0) r|_,_=>False)
  |.ref k q off len,.nat o r=>(match A5 H k q,Nat.beq (H k).sz sz,Nat.ble 1 sz with|true,true,true=>AP g (HJ n len off sz o)∧K (.ptr k q o) r|_,_,_=>False)
  |_,_=>False)
 |none,.d (.int _ (.ofNat n))=>(match i.arr,x with
  |some (m,sz),.iptr cs off=>(match Nat.ble (n+1) m,Nat.ble 1 sz with|true,true=>K (.iptr cs (off+n*sz)) a|_,_=>False)
  |some (m,sz),.ptr k q off=>(match A5 H k q,Nat.ble (n+1) m,Nat.ble 1 sz with|true,true,true=>K (.ptr k q (off+n*sz)) a|_,_,_=>False)
  |_,_=>False)
 |_,_=>False
def K2(i:TI)(x j:AV)(g:Option Bool)(a:AT)(K:AV→AT→Prop):Prop:=
 match x,j,a with
 |.d (.str s),.d (.int _ n),.num b r=>(match Nat.beq i.kin 2 with|true=>AP g (Xc s n b)∧K (.d (.int .u8 b)) r|false=>False)
 |_,_,_=>False
def LH(op:BinOp)(k:IntKind)(x y:Int)(g:Option Bool)(a:AT)(K:AV→AT→Prop):Prop:=
 match op with
 |.eql=>K (.d (.bool (decide (x=y)))) a
 |.neq=>K (.d (.bool (!decide (x=y)))) a
 |.lss=>K (.d (.bool (decide (x<y)))) a
 |.leq=>K (.d (.bool (decide (x≤y)))) a
 |.gtr=>K (.d (.bool (decide (y<x)))) a
 |.geq=>K (.d (.bool (decide (y≤x)))) a
 |.add=>match a with|.num n r=>AP g (Bp k (x+y) n)∧K (.d (.int k n)) r|_=>False
 |.sub=>match a with|.num n r=>AP g (Bp k (x-y) n)∧K (.d (.int k n)) r|_=>False
 |.mul=>match a with|.num n r=>AP g (Bp k (x*y) n)∧K (.d (.int k n)) r|_=>False
 |.quo=>match a with|.num n r=>AP g (JP y 0)∧AP g (Bp k (x.tdiv y) n)∧K (.d (.int k n)) r|_=>False
 |.rem=>match a with|.num n r=>AP g (JP y 0)∧AP g (AZ (x.tmod y) n)∧K (.d (.int k n)) r|_=>False
 |.shr=>match a with|.num n r=>AP g (JO 0 y)∧AP g (AZ (x.fdiv (2^(min y.toNat k.bits))) n)∧K (.d (.int k n)) r|_=>False
 |.shl=>match a with|.num n r=>AP g (JO 0 y)∧AP g (Bp k (x*2^(min y.toNat k.bits)) n)∧K (.d (.int k n)) r|_=>False
 |.and=>match a with|.num n r=>AP g (AZ (BO k x y) n)∧K (.d (.int k n)) r|_=>False
 |.or=>match a with|.num n r=>AP g (AZ (DO k x y) n)∧K (.d (.int k n)) r|_=>False
 |.xor=>match a with|.num n r=>AP g (AZ (HU k x y) n)∧K (.d (.int k n)) r|_=>False
 |_=>False
def L6(op:BinOp)(x y:ByteArray)(g:Option Bool)(a:AT)(K:AV→AT→Prop):Prop:=
 match op with
 |.add=>AP g (W4 x y)∧K (.d (.str (x++y))) a
 |.eql=>K (.d (.bool (decide (x=y)))) a
 |.neq=>K (.d (.bool (!decide (x=y)))) a
 |.lss=>K (.d (.bool (A8 x y))) a
 |.leq=>K (.d (.bool (A8 x y||decide (x=y)))) a
 |.gtr=>K (.d (.bool (!(A8 x y||decide (x=y))))) a
 |.geq=>K (.d (.bool (!A8 x y))) a
 |_=>False
def HV(H:Hp)(neg:Bool)(x:AV)(a:AT)(K:AV→AT→Prop):Prop:=
 match x with
 |.e0=>∀b,K (.d (.bool b)) a
 |.d (.list c)=>∀b,(c≠[]→b=neg)→K (.d (.bool b)) a
 |.ref k q _ n=>(match A5 H k q with|true=>∀b,(n≠0→b=neg)→K (.d (.bool b)) a|false=>False)
 |_=>False
def Zd:IntKind→IntKind→Bool
 |.i8,.i8|.i16,.i16|.i32,.i32|.i64,.i64|.u8,.u8|.u16,.u16|.u32,.u32|.u64,.u64=>true
 |_,_=>false
theorem io{a b:IntKind}(h:Zd a b=true):a=b:=by cases a<;>cases b<;>first|rfl|cases h
def LG(i:TI)(H:Hp)(op:BinOp)(c:Bool)(x y:AV)(g:Option Bool)(a:AT)(K:AV→AT→Prop):Prop:=
 match x,y with
 |.d (.int k m),.d (.int k' n)=>(match Zd k k' with|true=>LH op k m n g a K|false=>False)
 |.d (.str m),.d (.str n)=>L6 op m n g a K
 |.d (.bool m),.d (.bool n)=>(match Nat.beq i.kin 1 with
  |true=>(match op with
   |.eql=>K (.d (.bool (m==n))) a
   |.neq=>K (.d (.bool (!(m==n)))) a
   |_=>False)
  |false=>False)
 |.agg xs,.agg ys=>(match i.eqt with
  |some ks=>(match Cy ks xs ys with
   |some b=>(match op with
    |.eql=>K (.d (.bool b)) a
    |.neq=>K (.d (.bool (!b))) a
    |_=>False)
   |none=>False)
  |none=>False)
 |x,.e0=>(match c,Nat.beq i.kin 4 with
  |true,true=>(match op with
   |.eql=>HV H false x a K
   |.neq=>HV H true x a K
   |_=>False)
  |_,_=>False)
 |_,_=>False
def Mp(op:UnOp)(x:AV)(g:Option Bool)(a:AT)(K:AV→AT→Prop):Prop:=
 match op,x with
 |.not,.d (.bool b)=>K (.d (.bool (!b))) a
 |.neg,.d (.int k n)=>(match a with|.num m r=>AP g (Bp k (0-n) m)∧K (.d (.int k m)) r|_=>False)
 |.xor,.d (.int k n)=>(match a with|.num m r=>AP g (AZ (FG k n) m)∧K (.d (.int k m)) r|_=>False)
 |_,_=>False
def Lc(s d:TI)(x:AV)(g:Option Bool)(a:AT)(K:AV→AT→Prop):Prop:=
 match x with
 |.d (.int _ n)=>(match s.ik,d.ik,a with|some _,some k,.num m r=>AP g (Bp k n m)∧K (.d (.int k m)) r|_,_,_=>False)
 |.d (.str s')=>(match Nat.beq s.kin 2,Nat.beq d.kin 2 with|true,true=>K (.d (.str s')) a|_,_=>False)
 |_=>False
def K5(i:TI)(H:Hp)(x:AV)(lo hi:Option AV)(e:Bool)(g:Option Bool)(a:AT)(K:AV→AT→Prop):Prop:=
 match e,a with
 |false,.nat l (.nat h r)=>(match x with
  |.d (.str s)=>(match Nat.beq i.kin 2 with|true=>AP g (Cg 0 lo l)∧AP g (Cg s.size hi h)∧AP g (Ds l h s.size)∧K (.d (.str (s.extract l h))) r|false=>False)
  |.d (.list es)=>(match i.elm,r with
   |some (_,sz),.av (.d (.list b)) r=>(match Nat.ble 1 sz with
    |true=>AP g (Cg 0 lo l)∧AP g (Cg es.length hi h)∧AP g (Ds l h es.length)∧AP g (JQ es sz l h b)∧K (.d (.list b)) r
    |false=>False)
   |_,_=>False)
  |.ref k q off n=>(match i.elm,r,A5 H k q with
   |some (_,sz),.nat d (.nat c r),true=>(match Nat.ble 1 sz,Nat.beq (H k).sz sz with
    |true,true=>AP g (Cg 0 lo l)∧AP g (Cg n hi h)∧AP g (Ds l h n)∧AP g (MK off l h d c)∧K (.ref k q d c) r
    |_,_=>False)
   |_,_,_=>False)
  |_=>False)
 |_,_=>False
def LB(i:TI)(H:Hp)(x:AV)(g:Option Bool)(a:AT)(K:AV→AT→Prop):Prop:=
 match x,a with
 |.d (.str s),.num n r=>(match Nat.beq i.kin 2 with|true=>AP g (AZ s.size n)∧K (.d (.int .i64 n)) r|false=>False)
 |.d (.list es),.num n r=>(match Nat.beq i.kin 4 with|true=>AP g (AZ es.length n)∧K (.d (.int .i64 n)) r|false=>False)
 |.e0,.num n r=>(match Nat.beq i.kin 4 with|true=>AP g (AZ 0 n)∧K (.d (.int .i64 n)) r|false=>False)
 |.ref k q _ m,.num n r=>(match Nat.beq i.kin 4,A5 H k q with|true,true=>AP g (AZ m n)∧K (.d (.int .i64 n)) r|_,_=>False)
 |_,_=>False
def O1(H:Hp):AV→Option (Bool×List (List D))
 |.d (.map q a)=>some (q,a)
 |.mp k g=>match A5 H k g,(H k).e with
  |true,.m q a=>some (q,a)
  |_,_=>none
 |_=>none
def Zb:Bool→Bool→Bool
 |true,true=>true
 |false,false=>true
 |_,_=>false
theorem iE{a b:Bool}(h:Zb a b=true):a=b:=by cases a<;>cases b<;>first|rfl|cases h
def U1(a:List (List D))(s:ByteArray)(z vs:List D)(ok:Bool):Prop:=(D4 s a).isSome=ok∧(D4 s a).getD z=vs
def Li(i:TI)(H:Hp)(x y:AV)(b:Bool)(g:Option Bool)(a:AT)(K:AV→AT→Prop):Prop:=
 match i.mp,O1 H x,y,a with
 |some (q,z),some (d,c),.d (.str s),.av (.d (.bool ok)) (.ds vs r)=>(match Zb q d with
  |true=>AP g (U1 c s z vs ok)∧K (H5 b q vs ok) r
  |false=>False)
 |_,_,_,_=>False
def PZ(i:TI)(f:Nat):Option (Nat×Nat):=match i.arr with|some (_,sz)=>some (f*sz,sz)|none=>match AR i.fld f with|some (o,n,_)=>some (o,n)|none=>none
def lD(i:TI):Bool:=match i.arr with|some (_,sz)=>Nat.ble 1 sz|none=>false
def Je(i:TI)(cells:List AV):List (Nat×AV)→Option (List AV)
 |[]=>some cells
 |(f,v)::a=>match PZ i f,BJ v with
  |some (off,size),some vs=>match Nat.beq vs.length size,Nat.ble (off+vs.length) cells.length with
   |true,true=>Je i (cells.take off++vs++cells.drop (off+vs.length)) a
   |_,_=>none
  |_,_=>none
def K3(i:TI)(parts:List (Nat×AV))(a:AT)(K:AV→AT→Prop):Prop:=
 match i.str||lD i,i.zer with
 |true,some z=>(match Je i z parts with|some cs=>K (.agg cs) a|none=>False)
 |_,_=>False
def FO:AV→Bool
 |.fn (.yield _) _ _=>false
 |_=>true
def tV(T:Nat→Option TI)(H:Hp)(op:Op)(ρ:Operand→AV)(g:Option Bool)(a:AT)(K:AV→AT→Prop):Prop:=
 match op with
 |.move x=>K (ρ x) a
 |.assign x=>K (ρ x) a
 |.pick c x y=>match ρ c with|.d (.bool t)=>K (Pd t (ρ x) (ρ y)) a|_=>False
 |.load t x=>match T t with|some i=>HE i H (ρ x) g a K|none=>False
 |.fieldAddr t x f=>match T t with|some i=>Ki i H f (ρ x) a K|none=>False
 |.field t x f=>match T t with|some i=>KW i f (ρ x) a K|none=>False
 |.indexAddr t x j=>match T t with|some i=>Kk i H (ρ x) (ρ j) g a K|none=>False
 |.index t x j=>match T t with|some i=>K2 i (ρ x) (ρ j) g a K|none=>False
 |.extract x j=>match ρ x with|.tup vs=>(match AR vs j with|some y=>K y a|none=>False)|_=>False
 |.binOp o t x y _=>match T t with|some i=>LG i H o (Fq y) (ρ x) (ρ y) g a K|none=>False
 |.unOp o _ x=>Mp o (ρ x) g a K
 |.nilCheck x=>match ρ x with|.ptr k q off=>(match A5 H k q with|true=>K (.ptr k q off) a|false=>False)|.iptr cs off=>K (.iptr cs off) a|_=>False
 |.convert s d x=>match T s,T d with|some i,some j=>Lc i j (ρ x) g a K|_,_=>False
 |.makeInterface t x=>match T t with|some i=>(match i.str||i.elm.isSome,ρ x with|true,.agg xs=>(match HS xs with|some ds=>K (.ifc t ds true) a|none=>False)|true,.d x=>K (.ifc t [x] false) a|_,_=>False)|none=>False
 |.typeAssert x _ t ok=>match T t with|some i=>(match i.str||i.elm.isSome,ρ x with|true,.ifc u ds q=>(match Nat.beq u t,Zj q ds with|true,some v=>K (cond ok (.tup [v,.d (.bool true)]) v) a|false,some _=>(match i.zer.isSome,ok with|true,true=>K (.tup [.top,.d (.bool false)]) a|_,_=>False)|_,_=>False)|true,.p .nilIface=>(match i.zer.isSome,ok with|true,true=>K (.tup [.top,.d (.bool false)]) a|_,_=>False)|_,_=>False)|none=>False
 |.makeFunc fn first b=>match fn with|.yield _=>False|fn=>K (.fn fn (first.toList.map ρ) (b.toList.map ρ)) a
 |.slice t x lo hi h=>match T t with|some i=>K5 i H (ρ x) (lo.map ρ) (hi.map ρ) h.isSome g a K|none=>False
 |.lookup t x y e=>match T t with|some i=>Li i H (ρ x) (ρ y) e g a K|none=>False
 |.build t parts=>match T t,parts.toList.all (fun p=>FO (ρ p.2))with|some i,true=>K3 i (parts.toList.map fun p=>(p.1,ρ p.2)) a K|_,_=>False
 |.call c=>match c.callee,c.args.toList,c.argTypes.toList with
  |.builtin .len,[x],[t]=>match T t with|some i=>LB i H (ρ x) g a K|none=>False
  |.builtin .min,[x,y],_=>Cr false (ρ x) (ρ y) (fun v=>K v a)
  |.builtin .max,[x,y],_=>Cr true (ρ x) (ρ y) (fun v=>K v a)
  |.builtin .max,[x,y,z],_=>D8 true (ρ x) (ρ y) (ρ z) (fun v=>K v a)
  |_,_,_=>False
 |_=>False
end Go.Eng
