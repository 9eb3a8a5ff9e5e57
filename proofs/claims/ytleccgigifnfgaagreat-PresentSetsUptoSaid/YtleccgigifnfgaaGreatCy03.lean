import Derived.Test.YtleccgigifnfgaaGreatCy02
import Derived.KernelRfl
import Derived.Still
import Derived.IntWalk
import Derived.Test.YtleccgigifnfgaaGreatCy00
namespace Go.Eng
set_option linter.all false
open Go Go.RowKit
def args(xs:List AV):Nat→AV:=fun i=>(xs[i]?).getD .top
def CN(l:Nat)(H:Hp):Hp:=fun k=>if k.1≤l then H k else⟨0,false,0,0,[]⟩
def GV(l:Nat)(H' H:Hp):Hp:=fun k=>if k.1≤l then H' k else H k
def D5(P:Program)(σ:St):List ResultVar→(List AV→Prop)→Prop
 |[],K=>K []
 |.tmp t::rest,K=>D5 P σ rest (fun xs=>K (σ.s t::xs))
 |.cell a t::rest,K=>D2 P σ.H t (σ.s a) (fun x=>D5 P σ rest (fun xs=>K (x::xs)))
def C6:List AV→AV
 |[x]=>x
 |xs=>.tup xs
inductive Fz (H:Hp) (l:Nat):AV→AV→Prop
 |keep (x:AV) (h:x.low l=true):Fz H l x x
 |e0:Fz H l .e0 (.d (.list []))
 |mp (k:Ac) (a:Bool) (es:List (List D)) (hk:k.1=l+1) (hl:(H k).live=true) (he:(H k).e=.m a es):Fz H l (.mp k (H k).g) (.d (.map a es))
 |ref (k:Ac) (off n:Nat) (es:List (List D)) (hk:k.1=l+1) (hl:(H k).live=true) (hn:es.length=n) (hz:(H k).sz≠0) (he:∀e,e∈es→e.length=(H k).sz)
   (hlen:(off+n)*(H k).sz≤(H k).cells.length)
   (h:∀(i j:Nat) (e:List D) (d:D) (x:AV),es[i]?=some e→e[j]?=some d→(H k).cells[(off+i)*(H k).sz+j]?=some x→Fz H l x (.d d)):
   Fz H l (.ref k (H k).g off n) (.d (.list es))
 |agg (xs ys:List AV) (hl:xs.length=ys.length) (h:∀(i:Nat) (x y:AV),xs[i]?=some x→ys[i]?=some y→Fz H l x y):Fz H l (.agg xs) (.agg ys)
 |tup (xs ys:List AV) (hl:xs.length=ys.length) (h:∀(i:Nat) (x y:AV),xs[i]?=some x→ys[i]?=some y→Fz H l x y):Fz H l (.tup xs) (.tup ys)
def tf(P:Program)(fn:Func)(l:Nat)(H:Hp)(a:AV→Hp→Prop):Exit→St→Prop:=fun e σ=>
 (e=.normal∨e=.ret)∧D5 P σ fn.results.toList (fun xs=>∃y,Fz σ.H l (C6 xs) y∧a y (GV l σ.H H))
section
variable {P:Program} {l n:Nat} {B:Base} {H H':Hp} {m m':Mu} {S S':Nat→Prop} {w w':World} {s:Nat→AV} {a:Act} {K:St→Prop} {o:Oper} {σ:St} {Q:Exit→St→Prop}
theorem Zoj{t:TypeId}{v b:Value}(h:(Instr.loadAt t v).run P w=.ok b w):(do loadVar t (←asAddr v):Sem Value).run P w=.ok b w:=by
 cases v<;>try (simp[Instr.loadAt,Instr.sureAddr]at h;done)
 rename_i p
 cases p with
 |none=>simp[Instr.loadAt,Instr.sureAddr]at h
 |some a=>simpa[Instr.loadAt,Instr.sureAddr,asAddr]using h
def Mi(tmps:Array Value):ResultVar→Sem Value
 |.tmp t=>pure (tmps.getD t undef)
 |.cell p t=>do loadVar t (←asAddr (tmps.getD p undef))
theorem cU(k:Ok (l+1) H m S w)(b:Co (l+1) s H m S a w):∀(rs:List ResultVar) (K:List AV→Prop),D5 P ⟨s,H⟩ rs K→
  ∃(vs:List Value) (xs:List AV),(rs.mapM (Mi a.tmps)).run P w=.ok vs w∧xs.length=vs.length∧
   (∀(i:Nat) (x:AV) (v:Value),xs[i]?=some x→vs[i]?=some v→RepA w S H m (l+1) x v)∧K xs
 |[],K,h=>⟨[],[],by simp,rfl,fun i x v h=>by simp at h,h⟩
 |.tmp t::rest,K,h=>by
  obtain⟨vs,xs,f,g,n,j⟩:=cU k b rest _ h
  refine⟨a.tmps.getD t undef::vs,s t::xs,by simp only[O0,Mi,Sem.run_bind,Sem.run_pure,Result.andThen_ok,f],by simp[g],fun i x v d c=>?_,j⟩
  cases i with
  |zero=>simp at d c;subst d;subst c;simpa using b t
  |succ i=>exact n i x v (by simpa using d) (by simpa using c)
 |.cell p t::rest,K,h=>by
  obtain⟨v0,r,o,u,q⟩:=uU h (b p) k
  obtain⟨vs,xs,f,g,n,j⟩:=cU k b rest _ q
  refine⟨v0::vs,r::xs,?_,by simp[g],fun i x v d c=>?_,j⟩
  ·have:=Zoj o
   have e:(Mi a.tmps (.cell p t)).run P w=.ok v0 w:=this
   simp only[O0,Sem.run_bind,e,Sem.run_pure,Result.andThen_ok,f]
  grind
def Lg(l:Nat)(H:Hp)(m:Mu)(S:Nat→Prop):Nat→Prop:=fun b=>S b∨∃k:Ac,k.1=l+1∧(H k).live=true∧((m k).cap≠0∨(H k).e.isO=true)∧b=(m k).b
theorem Ok.fin(h:Ok (l+1) H m S w):Ok l H m (Lg l H m S) w∧Ext l H m S w H m (Lg l H m S) w:=by
 have n:Ext (l+1) H m S w H m (Lg l H m S) w:=⟨fun _ h=>.inl h,fun _ _=>rfl,fun _ _=>Yp _,fun _ _ _ h=>⟨h,rfl,rfl⟩,rfl,rfl,rfl,Yp _⟩
 refine⟨⟨fun b c=>?_,fun q u=>h.empty q (by omega),fun q u hl g=>?_,fun q A u z=>h.inj q A (by omega) (by omega),fun q u hl g=>?_,
  ⟨fun k p j=>(h.mp.o k (by omega) j).mono (fun _ h=>.inl h) (fun _ _=>rfl) (fun _=>rfl),fun k p j he=>?_,fun k k' p s=>h.mp.i k k' (by omega) (by omega)⟩⟩,n.mono (by omega)⟩
 ·rcases c with c|⟨k,p,hl,g,rfl⟩
  ·exact h.sub b c
  ·rcases g with g|g
   ·obtain⟨C,c,_⟩:=h.blk k (by omega) hl g
    grind
   ·obtain⟨o,c,_⟩:=(h.mp.o k (by omega) hl).at g
    grind
 ·rintro(hs|⟨k,p,f,a,e⟩)
  ·exact h.fresh q (by omega) hl g hs
  ·rcases a with a|a
   ·have:=h.inj q k (by omega) (by omega) hl f g a e
    grind
   ·obtain⟨o,c,r⟩:=(h.mp.o k (by omega) f).at a
    obtain⟨C,d,_⟩:=h.blk q (by omega) hl g
    rw[e,c]at d;cases d;cases r
 ·obtain⟨C,c,hs,t,y⟩:=h.blk q (by omega) hl g
  exact⟨C,c,hs,t,fun i x v hi j=>⟨(y i x v hi j).1,(y i x v hi j).2.ext n (by omega)⟩⟩
 ·refine⟨(h.mp.c k (by omega) j he).1,?_⟩
  rintro(hs|⟨k',s,f,a,e⟩)
  ·exact(h.mp.c k (by omega) j he).2 hs
  ·rcases a with a|a
   ·obtain⟨o,c,r⟩:=(h.mp.o k (by omega) j).at he
    obtain⟨C,d,_⟩:=h.blk k' (by omega) f a
    rw[←e,c]at d;cases d;cases r
   ·have:=h.mp.i k k' (by omega) (by omega) j f he a e
    grind
theorem Fz.sound{x y:AV}(h:Fz H l x y)(Q:Ok (l+1) H m S w):∀{v:Value},RepA w S H m (l+1) x v→RepA w (Lg l H m S) H m l y v:=by
 have t:Ext (l+1) H m S w H m (Lg l H m S) w:=⟨fun _ h=>.inl h,fun _ _=>rfl,fun _ _=>Yp _,fun _ _ _ h=>⟨h,rfl,rfl⟩,rfl,rfl,rfl,Yp _⟩
 induction h with
 |keep x h=>exact fun b=>(b.ext t (Yp _)).low h
 |e0=>
  intro v b
  cases b with
  |e0 N=>exact(RepA.e0 N).e0_d
 |mp k a es I hl he=>
  intro v b
  generalize F:(H k).g=g at b
  cases b with
  |mpD _ _ _ q G s p=>rw[s F.symm]at hl;cases hl
  |mpL _ q r=>
   have U:=Q.mp.o k (by omega) hl
   rw[he]at U
   obtain⟨ents,A,p,O⟩:=U
   exact .d _ _ (.ofM (.inr ⟨k,I,hl,.inr (by rw[he];rfl),rfl⟩) p (O.mono (fun _ h=>.inl h) (fun _ _=>rfl)))
 |ref k off n es I hl J hz he o h u=>
  intro v b
  generalize F:(H k).g=g at b
  cases b with
  |refD _ _ _ _ _ q G s p=>rw[s F.symm]at hl;cases hl
  |refL _ _ _ N q r T R=>
   by_cases K:n=0
   ·subst K
    have:es=[]:=YB J
    subst this
    cases N with
    |none=>
     have e:(m k).cap-off=0:=by
      rcases YH off (m k).cap with h|h
      ·have:=R h;cases this
      ·omega
     rw[e]
     exact .d _ _ .nil
    |some ad=>exact .d _ _ (.list [] ad 0 _ (fun _ _=>.bool true) (fun h=>absurd rfl h) (DT _) (fun _ h=>by cases h) (fun i j e x h=>by simp at h) (fun i j e x h=>by simp at h))
   ·have L:=R (by omega)
    subst L
    obtain⟨E,C,p,O,Z,P⟩:=Q.row (k:=k) (by omega) hl (by
     intro e
     rw[e,YZ]at o
     have:=OT (show 0<n by omega) (show 0<(H k).sz by omega)
     simp at o
     omega)
    have idx:∀(i j:Nat) (e:List D) (d:D),es[i]?=some e→e[j]?=some d→(off+i)*(H k).sz+j<(H k).cells.length:=by
     intro i j e d hi f
     have W:i<n:=by
      rw[←J]
      rcases YH i es.length with h|h
      ·exact h
      ·rw[YT h]at hi;cases hi
     have X:j<(H k).sz:=by
      rw[←he e (Yu hi)]
      rcases YH j e.length with h|h
      ·exact h
      ·rw[YT h]at f;cases f
     have:(off+i+1)*(H k).sz≤(off+n)*(H k).sz:=YY _ (by omega)
     rw[YZ (off+i)]at this
     omega
    have:=RepD.list (w:=w) (S:=Lg l H m S) es ⟨(m k).b,(m k).o+off*(H k).sz,none⟩ (H k).sz ((m k).cap-off) (fun i j=>(C[(m k).o+((off+i)*(H k).sz+j)]?).getD undef)
     (fun _=>.inr ⟨k,I,hl,.inl E,rfl⟩) (by omega) he
     (fun i j e d hi f=>by
      obtain⟨v,z,_,_⟩:=P _ _ (Yh (idx i j e d hi f))
      rw[Addr.add_lit,FR p,z]
      rw[show(m k).o+off*(H k).sz+(i*(H k).sz+j)=(m k).o+((off+i)*(H k).sz+j)from by rw[YZ];omega,z]
      rfl)
     (fun i j e d hi f=>by
      obtain⟨v,z,Y,V⟩:=P _ _ (Yh (idx i j e d hi f))
      rw[z]
      have:=u i j e d _ hi f (Yh (idx i j e d hi f)) V
      cases this with
      |d _ _ s=>exact s)
    rw[J]at this
    exact .d _ _ this
 |agg xs ys hl h u=>
  intro v b
  cases b with
  |agg _ vs r p B=>
   refine .agg _ _ (by omega) p (fun i y v hy M=>?_)
   have c:i<xs.length:=by
    rw[hl]
    rcases YH i ys.length with h|h
    ·exact h
    ·rw[YT h]at hy;cases hy
   exact u i _ y (Yh c) hy (B i _ v (Yh c) M)
 |tup xs ys hl h u=>
  intro v b
  cases b with
  |tup _ vs r B=>
   refine .tup _ _ (by omega) (fun i y v hy M=>?_)
   have c:i<xs.length:=by
    rw[hl]
    rcases YH i ys.length with h|h
    ·exact h
    ·rw[YT h]at hy;cases hy
   exact u i _ y (Yh c) hy (B i _ v (Yh c) M)
theorem Zje{fn:Func}{KK:List AV→Prop}(j:Ok (l+1) H m S w)(k:Co (l+1) s H m S a w)(h:D5 P ⟨s,H⟩ fn.results.toList KK):
  ∃v xs,(results fn a.tmps).run P w=.ok v w∧RepA w S H m (l+1) (C6 xs) v∧KK xs:=by
 obtain⟨vs,xs,d,c,b,g⟩:=cU j k _ _ h
 have o:∀f:ResultVar→Sem Value,(∀r,f r=Mi a.tmps r)→(fn.results.mapM f).run P w=.ok vs.toArray w:=by
  intro f n
  have:f=Mi a.tmps:=funext n
  subst this
  rw[mz]
  simp[d]
 refine⟨if h:vs.toArray.size=1 then vs.toArray[0]else .tuple vs.toArray,xs,?_,?_,g⟩
 ·unfold results
  simp only[Sem.run_bind]
  rw[o _ (fun r=>by cases r<;>rfl)]
  simp
 ·match xs,vs,c,b with
  |[x],[v],_,b=>exact b 0 x v rfl rfl
  |[],[],_,_=>exact .tup _ _ rfl (fun i x v h=>by simp[C6]at h)
  |x::x'::xs,v::t::vs,c,b=>
   have e:¬((v::t::vs).toArray.size=1):=by simp
   rw[dif_neg e]
   exact .tup _ _ (by simpa using c) (fun i x v q p=>b i x v q (by simpa using p))
theorem ZvP{P:Program}{f:FuncId}{fn:Func}{c:Code}{n l:Nat}{xs:List AV}{H:Hp}{s:AV→Hp→Prop}(hf:P.funcs[f]?=some fn)(hb:fn.body=some c)(G:(fn.name== "runtime.NumGoroutine")=false)
  (hn:fn.ntmps=n) (hx:xs.length≤n) (h:∀B:Base,Bz P l n B c (tf P fn l H s) ⟨args xs,CN l H⟩):Zcq P f l xs H s:=by
 refine⟨⟨fn,c,hf,hb,G⟩,fun m S w vs K j=>?_⟩
 have a:∀k:Ac,k.1≤l→CN l H k=H k:=fun k g=>by unfold CN;rw[Ys g]
 have hdead:∀k:Ac,¬k.1≤l→(CN l H k).live=false:=fun k g=>by unfold CN;rw[Yr g]
 have u:∀k:Ac,(CN l H k).live=true→k.1≤l:=fun k hl=>by
  grind
 have X:Ok (l+1) (CN l H) m S w:=by
  refine⟨K.sub,fun q d hl o=>?_,fun q d hl o=>?_,fun q M d I hl t o J heq=>?_,fun q d hl o=>?_,
   K.mp.stepL (fun q _ hl _=>by have:=u q hl;rw[a q this]at hl⊢;exact⟨this,hl,rfl,rfl⟩) (fun _ h=>h) (fun _ h=>.inl h) (fun _ _=>rfl) (fun _ _ h _=>h)⟩
  ·have:=u q hl;rw[a q this]at hl⊢;exact K.empty q this hl o
  ·have:=u q hl;rw[a q this]at hl;exact K.fresh q this hl o
  ·have e:=u q hl
   have e':=u M t
   rw[a q e]at hl;rw[a M e']at t
   exact K.inj q M e e' hl t o J heq
  ·have e:=u q hl
   rw[a q e]at hl⊢
   obtain⟨C,U,V,W,T⟩:=K.blk q e hl o
   exact⟨C,U,V,W,fun i x v hi O=>⟨(T i x v hi O).1,(T i x v hi O).2.agree (fun k g=>a k (by omega)) (fun _ _=>rfl)⟩⟩
 have hE:Ext l H m S w (CN l H) m S w:=⟨fun _ h=>h,fun _ _=>rfl,fun k g=>by rw[a k g];exact Yp _,fun k g _ hl=>by rw[a k g]at hl⊢;exact⟨hl,rfl,rfl⟩,rfl,rfl,rfl,Yp _⟩
 have hR:R l n ⟨H,m,S,w⟩ ⟨args xs,CN l H⟩ {tmps:=vs++Array.replicate (fn.ntmps-vs.size) undef,defers:=[] } w:=by
  refine⟨m,S,X,by simp[hn];rw[←j.1];omega,rfl,fun i=>?_,hE⟩
  simp only[args]
  cases hi:xs[i]? with
  |none=>exact .top _
  |some x=>
   have hlt:i<xs.length:=by
    grind
   have D:i<vs.size:=by rw[←j.1];exact hlt
   rw[YD,LZ D,Yx D]
   exact((j.2 i x _ hi (Yx D)).agree (fun k g=>a k g) (fun _ _=>rfl)).lvl (Nat.le_succ l)
 refine calls_of_wp hf hb (wp_mono (h ⟨H,m,S,w⟩ _ w hR) fun e a' w' ⟨σ',d,Y⟩=>?_)
 obtain⟨s',H'⟩:=σ'
 obtain⟨m',S',A,hn',hd',Z,N⟩:=Y.un
 have done:D5 P ⟨s',H'⟩ fn.results.toList (fun xs=>∃y,Fz H' l (C6 xs) y∧s y (GV l H' H))→a'.defers=[]∧∃v,(results fn a'.tmps).run P w'=.ok v w'∧
   (∃r Q p E z,Ending.returned v=.returned Q∧s r p∧Ok l p E z w'∧RepA w' z p E l r Q∧Ext l H m S w p E z w'):=by
  intro hr
  obtain⟨v,xs,U,V,y,W,T⟩:=Zje A Z hr
  obtain⟨L,k2⟩:=A.fin
  have b:∀k:Ac,k.1≤l→GV l H' H k=H' k:=fun k g=>by unfold GV;rw[Ys g]
  refine⟨hd',v,U,y,v,GV l H' H,m',_,rfl,T,?_,(W.sound A V).agree b (fun _ _=>rfl),?_⟩
  ·refine⟨L.sub,fun q d hl o=>?_,fun q d hl o=>?_,fun q M d I hl t o J heq=>?_,fun q d hl o=>?_,
    L.mp.step (Yp _) (fun q d hl _=>by rw[b q d]at hl⊢;exact⟨hl,rfl,rfl⟩) (fun _ h=>h) (fun _ h=>.inl h) (fun _ _=>rfl) (fun _ _ h _=>h)⟩
   ·rw[b q d]at hl⊢;exact L.empty q d hl o
   ·rw[b q d]at hl;exact L.fresh q d hl o
   ·rw[b q d]at hl;rw[b M I]at t;exact L.inj q M d I hl t o J heq
   ·rw[b q d]at hl⊢
    obtain⟨C,g1,g2,g3,g4⟩:=L.blk q d hl o
    exact⟨C,g1,g2,g3,fun i x v hi O=>⟨(g4 i x v hi O).1,(g4 i x v hi O).2.agree (fun k g=>b k (by omega)) (fun _ _=>rfl)⟩⟩
  ·have F:=Ext.trans (show Ext l H m S w H' m' S' w' from N) k2
   exact⟨F.s,F.blk,fun k g=>by rw[b k g];exact F.g k g,fun k g hg hl=>by rw[b k g]at hg hl⊢;exact F.live k g hg hl,F.os,F.tape,F.output,F.size⟩
 rcases d.1 with rfl|rfl
 ·exact done d.2
 ·exact done d.2
end
end Go.Eng
namespace Go.Eng
set_option linter.all false
open Go Go.RowKit
section
variable {P:Program} {l n:Nat} {ds:List (Option Nat)} {ops rest:List Oper} {K:St→Prop} {s:Nat→AV} {H:Hp} {d:Option Nat} {op:Op} {ty:TypeId} {ps:String} {af:Array Edge} {g:Option (Nat×Bool)}
variable {x y:Operand} {t:TypeId}
theorem ki{l:Nat}{H:Hp}{k:Ac}(h:k.1≤l):CN l H k=H k:=by unfold CN;rw[Ys h]
theorem ZDm{l:Nat}{H:Hp}{i:Nat}:CN l H (l+1,i)=⟨0,false,0,0,[]⟩:=by unfold CN;rw[Yr (by simp)]
end
def BH(o:Oper):Bool:=o.dst.isSome&&match o.op with
 |.call c=>match c.callee with
  |.value _=>true
  |.builtin .len|.builtin .min|.builtin .max=>true
  |_=>false
 |.binOp _ _ _ y _=>!Hz y
 |.alloc _|.box _ _|.store _ _ _|.buildSlice _ _ _|.makeSlice _ _ _|.makeMap _ _|.range _ _|.next _ _|.entry _=>false
 |_=>true
def Zl(o:Oper):Bool:=match o.op with
 |.buildSlice _ (_+1) _=>true
 |_=>false
def Cv(o:Oper):Bool:=BH o||(o.dst.isSome&&Zl o)
def tu(P:Program)(t:TypeId)(len:Nat)(ps:List (Nat×AV))(v:AV):Prop:=
 ∃e sz z es,elm P t=some (e,sz)∧sz≠0∧(len+1)*sz≤16777216∧zer P e=some z∧z.length=sz∧EZ sz 0 ps=some es∧es.length=len+1∧v=.d (.list es)
def qV(P:Program)(l:Nat)(H:Hp)(o:Oper)(ρ:Operand→AV)(v:AV):Prop:=
 match o.op with
 |.buildSlice t (len+1) parts=>tu P t len (parts.toList.map fun p=>(p.1,ρ p.2)) v
 |.call c=>match c.callee with
  |.value f=>match ρ f with
   |.fn (.func g) first a=>Zcq P g (l+1) (first++c.args.toList.map ρ++a) H (fun y b=>y=v∧b=H)
   |_=>False
  |_=>AZ P H o.op ρ (fun y=>y=v)
 |_=>AZ P H o.op ρ (fun y=>y=v)
def EV(P:Program)(l n:Nat)(o:Oper)(K:St→Prop)(σ:St):Prop:=
 match o.op with
 |.buildSlice t (len+1) parts=>∃v,tu P t len (parts.toList.map fun p=>(p.1,ev σ.s p.2)) v∧B9 n o.dst K σ v
 |.call c=>match c.callee with
  |.value f=>match ev σ.s f with
   |.fn (.func g) first a=>∃r,Zcq P g (l+1) (first++c.args.toList.map (ev σ.s)++a) σ.H (fun y b=>y=r∧b=σ.H)∧B9 n o.dst K σ r
   |_=>False
  |_=>Bp P l n o K σ
 |_=>Bp P l n o K σ
def Dm(P:Program)(l n:Nat)(ds:List (Option Nat)):List Oper→(St→Prop)→St→Prop
 |[],K,σ=>K σ
 |o::rest,K,σ=>match o.guard with
  |none=>EV P l n o (Dm P l n ds rest K) σ
  |some (i,b)=>match GT σ.s ds i b with
   |some t=>(t=true→EV P l n o (Dm P l n ds rest K) σ)∧(t=false→match o.dst with|some d=>d<n∧Dm P l n ds rest K ⟨upd σ.s d (.tup []),σ.H⟩|none=>False)
   |none=>False
section
variable {P:Program} {l n:Nat} {B:Base} {H:Hp} {K K':AV→Prop} {t:TypeId} {x y:AV} {ρ ρ':Operand→AV}
theorem wy{op:BinOp}{k:IntKind}{a b:Int}(h:∀v,K v→K' v)(c:Fr op k a b K):Fr op k a b K':=by
 cases op<;>simp only[Fr]at c⊢<;>first|exact h _ c|exact⟨c.1,h _ c.2⟩|exact c
theorem vX{op:BinOp}{a b:ByteArray}(h:∀v,K v→K' v)(c:Fv op a b K):Fv op a b K':=by
 cases op<;>simp only[Fv]at c⊢<;>first|exact h _ c|exact⟨c.1,h _ c.2⟩|exact c
theorem ZwX{op:BinOp}{k:IntKind}{a b:Int}(c:Fr op k a b K):∃v,Fr op k a b (fun y=>y=v)∧K v:=by
 cases op<;>simp only[Fr]at c⊢<;>first|exact⟨_,rfl,c⟩|exact⟨_,⟨c.1,rfl⟩,c.2⟩|exact c.elim
theorem ZvF{op:BinOp}{a b:ByteArray}(c:Fv op a b K):∃v,Fv op a b (fun y=>y=v)∧K v:=by
 cases op<;>simp only[Fv]at c⊢<;>first|exact⟨_,rfl,c⟩|exact⟨_,⟨c.1,rfl⟩,c.2⟩|exact c.elim
theorem ZqS(h:D2 P H t x K):∃v,D2 P H t x (fun y=>y=v)∧K v:=by
 unfold D2 at h⊢
 split at h
 ·grind
 ·grind
 grind
theorem Zh5{i:Nat}(h:Ej P H t i x K):∃v,Ej P H t i x (fun y=>y=v)∧K v:=by
 unfold Ej at h⊢
 grind
theorem Zn8{i:Nat}(h:Eo P t i x K):∃v,Eo P t i x (fun y=>y=v)∧K v:=by
 unfold Eo at h⊢
 split at h
 ·split at h
  ·grind
  grind
 grind
theorem Zh6(h:DU P H t x y K):∃v,DU P H t x y (fun y=>y=v)∧K v:=by
 unfold DU at h⊢
 grind
theorem ZoV(h:EL P t x y K):∃v,EL P t x y (fun y=>y=v)∧K v:=by
 unfold EL at h⊢
 grind
theorem ZvH{op:BinOp}{xs ys:List AV}(h:F5 P op t xs ys K):∃v,F5 P op t xs ys (fun y=>y=v)∧K v:=by
 unfold F5 at h⊢
 split at h
 ·grind
 grind
theorem Zwv{op:BinOp}(h:Ch P H op t false x y K):∃v,Ch P H op t false x y (fun y=>y=v)∧K v:=by
 unfold Ch at h⊢
 split at h
 ·obtain⟨v,a,b⟩:=ZwX h.2;exact⟨v,⟨h.1,a⟩,b⟩
 ·exact ZvF h
 ·grind
 ·exact ZvH h
 ·cases h.1
 grind
theorem ZEH{op:UnOp}(h:Ec op x K):∃v,Ec op x (fun y=>y=v)∧K v:=by
 unfold Ec at h⊢
 grind
theorem ZrJ{u:TypeId}(h:Ep P t u x K):∃v,Ep P t u x (fun y=>y=v)∧K v:=by
 unfold Ep at h⊢
 grind
theorem ZnR{lo hi:Option AV}{a:Bool}(h:DX P H t x lo hi a K):∃v,DX P H t x lo hi a (fun y=>y=v)∧K v:=by
 unfold DX at h⊢
 grind
theorem Zxf(h:Dq P H t x K):∃v,Dq P H t x (fun y=>y=v)∧K v:=by
 unfold Dq at h⊢
 grind
theorem ZoG{ps:List (Nat×AV)}(h:EM P t ps K):∃v,EM P t ps (fun y=>y=v)∧K v:=by
 unfold EM at h⊢
 grind
theorem ZDg{op:Op}(g:∀o t x y u,op=.binOp o t x y u→Hz y=false)(h:AZ P H op ρ K):∃v,AZ P H op ρ (fun y=>y=v)∧K v:=by
 cases op<;>simp only[AZ]at h⊢<;>try exact h.elim
 case move x=>exact⟨_,rfl,h⟩
 case assign x=>exact⟨_,rfl,h⟩
 case pick c a b=>
  split at h
  ·grind
  ·grind
 case load=>exact ZqS h
 case fieldAddr=>exact Zh5 h
 case field=>exact Zn8 h
 case indexAddr=>exact Zh6 h
 case index=>exact ZoV h
 case extract=>
  split at h
  ·grind
  ·grind
 case binOp o t x y u=>
  rw[g _ _ _ _ _ rfl]at h⊢
  exact Zwv h
 case unOp=>exact ZEH h
 case convert=>exact ZrJ h
 case nilCheck=>
  unfold Hj at h⊢
  split at h
  ·grind
  ·grind
  ·grind
 case makeFunc=>exact⟨_,rfl,h⟩
 case makeInterface=>
  obtain⟨d,h⟩:=h
  repeat' split at h
  all_goals first|exact h.elim|exact⟨_,⟨d,rfl⟩,h⟩
 case typeAssert=>
  obtain⟨d,h⟩:=h
  repeat' split at h
  all_goals first|exact h.elim|exact⟨_,⟨d,h.1,rfl⟩,h.2⟩
 case slice=>exact ZnR h
 case build=>exact ZoG h
 case lookup=>exact Zsn h
 case call c=>
  split at h
  ·obtain⟨v,e,f⟩:=Zxf h.2;exact⟨v,⟨h.1,e⟩,f⟩
  ·split at h
   ·unfold DN at h⊢
    grind
   ·unfold FY at h⊢
    grind
   grind
  ·grind
theorem xd{op:Op}(e:∀o t x y u,op=.binOp o t x y u→Hz y=false){v:AV}(d:K v)(h:AZ P H op ρ (fun y=>y=v)):AZ P H op ρ K:=by
 have:(fun y=>y=v)=(fun y=>y=v∧K v):=by funext y;simp[d]
 rw[this]at h
 clear this d
 cases op<;>simp only[AZ]at h⊢<;>try exact h.elim
 case move x=>exact h.1▸h.2
 case assign x=>exact h.1▸h.2
 case pick c a b=>
  split at h
  ·grind
  ·grind
 case load t x=>
  unfold D2 at h⊢
  split at h
  ·grind
  ·grind
  ·grind
 case fieldAddr=>
  unfold Ej at h⊢
  split at h
  ·grind
  ·grind
  ·grind
 case field=>
  unfold Eo at h⊢
  split at h
  ·split at h
   ·grind
   grind
  ·grind
 case indexAddr=>
  unfold DU at h⊢
  split at h
  ·grind
  ·grind
  ·grind
 case index=>
  unfold EL at h⊢
  split at h
  ·grind
  ·grind
 case makeInterface=>
  refine⟨h.1,?_⟩
  replace h:=h.2
  repeat' split at h
  all_goals first|exact h.elim|exact h.1▸h.2
 case typeAssert=>
  refine⟨h.1,?_⟩
  replace h:=h.2
  repeat' split at h
  all_goals first|exact h.elim|exact⟨h.1,h.2.1▸h.2.2⟩
 case extract=>
  split at h
  ·grind
  ·grind
 case binOp o t x y u=>
  rw[e _ _ _ _ _ rfl]at h⊢
  unfold Ch at h⊢
  split at h
  ·exact⟨h.1,wy (fun y (hy:y=v∧K v)=>hy.1▸hy.2) h.2⟩
  ·exact vX (fun y (hy:y=v∧K v)=>hy.1▸hy.2) h
  ·grind
  ·unfold F5 at h⊢
   split at h
   ·split at h
    ·grind
    grind
   grind
  ·cases h.1
  ·grind
 case unOp=>
  unfold Ec at h⊢
  split at h<;>grind
 case nilCheck=>
  unfold Hj at h⊢
  split at h
  ·grind
  ·grind
  ·grind
 case convert=>
  unfold Ep at h⊢
  split at h
  ·grind
  ·grind
  ·grind
 case makeFunc=>exact h.1▸h.2
 case slice=>
  unfold DX at h⊢
  split at h
  ·grind
  ·grind
  ·grind
  ·grind
 case build=>
  unfold EM at h⊢
  split at h
  ·grind
  ·grind
 case lookup=>exact wq (fun y (hy:y=v∧K v)=>hy.1▸hy.2) h
 case call c=>
  split at h
  ·refine⟨h.1,?_⟩
   replace h:=h.2
   unfold Dq at h⊢
   grind
  ·split at h
   ·unfold DN at h⊢
    grind
   ·unfold FY at h⊢
    grind
   grind
  ·grind
theorem dN{o:Oper}(h:Cv o=true)(a:∀t len ps,o.op=.buildSlice t (len+1) ps→False):BH o=true:=by
 unfold Cv at h
 rw[Yj]at h
 rcases h with h|h
 ·exact h
 ·exfalso
  unfold Zl at h
  split at h
  ·rename_i e;exact a _ _ _ e
  ·simp at h
theorem dp{o:Oper}(a:Cv o=true):∀b t x y u,o.op=.binOp b t x y u→Hz y=false:=by
 intro b t x y u h
 simp only[Cv,Zl,BH,h,H9,O1,Ya,Yk]at a
 exact a.2
theorem xn{o:Oper}{v:AV}(h:∀x∈o.op.operands,ρ x=ρ' x)(a:qV P l H o ρ v):qV P l H o ρ' v:=by
 obtain⟨q,op,type,pos,after,guard⟩:=o
 have d:∀i:Array Operand,(∀x∈i,ρ x=ρ' x)→i.toList.map ρ=i.toList.map ρ':=fun i k=>Fe fun x e=>k x (by simpa using e)
 cases op<;>simp only[Op.operands]at h<;>simp only[qV,AZ]at a⊢<;>try exact a
 case call c=>
  have k:c.args.toList.map ρ=c.args.toList.map ρ':=d _ fun x e=>h x (by simp[Call.operands,e])
  cases j:c.callee with
  |value f=>
   have z:ρ f=ρ' f:=h f (by simp[Call.operands,j])
   grind
  |invoke r m=>simp only[j]at a
  |builtin b=>
   simp only[j]at a⊢
   split at a
   ·rename_i x t y s w
    rw[←h x (by simp[Call.operands,j,mB s])]
    exact a
   ·grind
   grind
 case build t ps=>
  have:(ps.toList.map fun p=>(p.1,ρ p.2))=ps.toList.map fun p=>(p.1,ρ' p.2):=Fe fun p u=>by
   grind
  rw[←this];exact a
 case buildSlice t n ps=>
  cases n with
  |zero=>exact a
  |succ n=>
   have:(ps.toList.map fun p=>(p.1,ρ p.2))=ps.toList.map fun p=>(p.1,ρ' p.2):=Fe fun p u=>by
    grind
   simp only at a⊢
   rw[←this];exact a
 case makeFunc fn first g=>
  rw[←d first fun x e=>h x (by simp[e]),←d g fun x e=>h x (by simp[e])];exact a
 case slice t x lo hi A=>
  rw[←h x (by simp),show lo.map ρ'=lo.map ρ from by cases lo<;>simp_all,show hi.map ρ'=hi.map ρ from by cases hi<;>simp_all];exact a
 all_goals(first|(simp_all;done))
theorem wX{o:Oper}{s:Nat→AV}{K:St→Prop}(a:Cv o=true)(h:EV P l n o K ⟨s,H⟩):∃d v,o.dst=some d∧d<n∧qV P l H o (ev s) v∧K ⟨upd s d v,H⟩:=by
 have m:∃d,o.dst=some d:=by
  have:o.dst.isSome=true:=by
   unfold Cv BH at a
   rw[Yj,Ya,Ya]at a
   rcases a with h|h
   ·exact h.1
   ·exact h.1
  exact Y8.1 this
 obtain⟨d,m⟩:=m
 have i:AZ P H o.op (ev s) (B9 n o.dst K ⟨s,H⟩)→(∀v,AZ P H o.op (ev s) (fun y=>y=v)→qV P l H o (ev s) v)→∃d v,o.dst=some d∧d<n∧qV P l H o (ev s) v∧K ⟨upd s d v,H⟩:=fun h p=>by
  obtain⟨v,q,b⟩:=ZDg (dp a) h
  rw[m]at b
  exact⟨d,v,m,b.1,p v q,b.2⟩
 unfold EV at h
 split at h
 ·rename_i z
  obtain⟨v,q,b⟩:=h
  rw[m]at b
  refine⟨d,v,m,b.1,?_,b.2⟩
  unfold qV
  rw[z]
  exact q
 ·rename_i c j
  replace a:BH o=true:=dN a fun t n ps e=>by rw[j]at e;cases e
  split at h
  ·rename_i f w
   simp only[]at h
   split at h
   ·rename_i g first A B
    obtain⟨r,q,b⟩:=h
    rw[m]at b
    refine⟨d,r,m,b.1,?_,b.2⟩
    simp only[qV,j,w,B]
    exact q
   ·exact h.elim
  ·rename_i w
   refine i ?_ ?_
   ·unfold Bp at h
    simp only[j]at h
    simp only[BH,j,Ya]at a
    split at h
    ·rename_i f x;exact absurd x (w f)
    ·rename_i u;rw[u]at a;simp at a
    ·rw[j];exact h
   ·intro v p
    unfold qV
    rw[j]at p⊢
    cases k:c.callee with
    |value f=>exact absurd k (w f)
    |_=>simpa[k]using p
 ·rename_i u j
  replace a:BH o=true:=dN a fun t n ps e=>u _ _ _ e
  refine i ?_ ?_
  ·unfold Bp at h
   split at h
   ·rename_i he;simp[BH,he]at a
   ·rename_i he;simp[BH,he]at a
   ·rename_i he;simp[BH,he]at a
   ·rename_i he;simp[BH,he]at a
   ·rename_i he;simp[BH,he]at a
   ·rename_i c he;exact absurd he (j c)
   ·exact h
  ·intro v p
   unfold qV
   split
   ·rename_i he;exact absurd he (u _ _ _)
   ·rename_i c he;exact absurd he (j c)
   ·exact p
theorem ZL1{o:Oper}{s:Nat→AV}{v:AV}{d:Nat}(q:Cv o=true)(b:o.dst=some d)(a:d<n)(h:qV P l H o (ev s) v):BM P l n B o (fun E=>E=⟨upd s d v,H⟩) ⟨s,H⟩:=by
 unfold qV at h
 split at h
 ·rename_i t len parts k
  obtain⟨e,sz,z,es,i,j,u,w,x,y,A,rfl⟩:=h
  exact u4 k b i j u w x y A a rfl
 ·rename_i c C
  split at h
  ·rename_i f p
   split at h
   ·rename_i g first m D
    refine xx C p D (h.mono fun r F ⟨i,j⟩=>?_)
    subst i;subst j
    rw[b]
    exact⟨a,rfl⟩
   grind
  ·rename_i p
   exact RP (xd (dp q) (by rw[b];exact⟨a,rfl⟩) h)
 ·exact RP (xd (dp q) (by rw[b];exact⟨a,rfl⟩) h)
end
section
variable {P:Program} {l n:Nat} {B:Base} {H:Hp} {ops:Array Oper} {md:Region.Mode} {Q:(Nat→AV)→Prop}
def YA(P:Program)(l:Nat)(H:Hp)(ops:Array Oper)(o:Oper)(s:Nat→AV)(v:AV):Prop:=
 match o.guard with
 |none=>qV P l H o (ev s) v
 |some (i,b)=>match GT s (ops.toList.map (·.dst)) i b with
  |some t=>(t=true→qV P l H o (ev s) v)∧(t=false→v=.tup [])
  |none=>False
theorem n9{o:Oper}{s:Nat→AV}{v u:AV}{d:Nat}(k:d∉o.looksAt ops)(h:YA P l H ops o (upd s d u) v):YA P l H ops o s v:=by
 have f:∀x∈o.op.operands,ev (upd s d u) x=ev s x:=fun x p=>by
  cases x with
  |tmp t=>
   have c:t≠d:=fun e=>k (by
    subst e
    exact Ic _ (List.mem_filterMap.2 ⟨.tmp t,by simpa using p,rfl⟩))
   simp[ev,upd,c]
  |_=>rfl
 unfold YA at*
 cases j:o.guard with
 |none=>simp only[j]at h⊢;exact xn f h
 |some m=>
  obtain⟨i,b⟩:=m
  simp only[j]at h⊢
  have g:GT (upd s d u) (ops.toList.map (·.dst)) i b=GT s (ops.toList.map (·.dst)) i b:=by
   unfold GT
   simp only[YO,Yz]
   cases n:ops[i]? with
   |none=>rfl
   |some q=>
    cases a:q.dst with
    |none=>simp[a]
    |some t=>
     have c:t≠d:=fun e=>k (by subst e;simp[Oper.looksAt,j,n,a])
     simp[a,upd,c]
  rw[g]at h
  split at h
  ·rename_i t r
   exact⟨fun e=>xn f (h.1 e),h.2⟩
  ·exact h
theorem ZFK{o:Oper}{s:Nat→AV}{v u:AV}{d:Nat}(a:d∉o.looksAt ops)(h:YA P l H ops o s v):YA P l H ops o (upd s d u) v:=by
 refine n9 (d:=d) (u:=s d) a ?_
 have:upd (upd s d u) d (s d)=s:=by funext j;unfold upd;split<;>simp_all
 grind
theorem ZxY{s:Nat→AV}{d e:Nat}{u v:AV}(h:d≠e):upd (upd s d u) e v=upd (upd s e v) d u:=by
 funext j
 unfold upd
 grind
end
def JJ(P:Program)(t:TypeId)(i:Nat):Option (Nat×Nat×Bool):=
 match P.underlying t with
 |some (.struct a)=>(a[i]?).bind fun f=>(C7 P f.type).map fun b=>(f.offset,P.cellsOf f.type,b)
 |_=>none
def MP(o:Option (Nat×Nat×Bool))(x:AV)(K:AV→Prop):Prop:=
 match o,x with
 |some (o,n,true),.agg cs=>n≠0∧K (.agg ((cs.drop o).take n))
 |some (o,_,false),.agg cs=>(match cs[o]? with|some c=>K c|none=>False)
 |_,_=>False
theorem Zpu{P:Program}{t:TypeId}{i:Nat}{x:AV}{K:AV→Prop}:Eo P t i x K=MP (JJ P t i) x K:=by
 unfold Eo JJ
 cases x with
 |agg cs=>
  cases j:P.underlying t with
  |none=>rfl
  |some d=>
   cases d with
   |struct a=>
    simp only
    cases g:a[i]? with
    |none=>rfl
    |some f=>
     simp only[Yi]
     cases c:C7 P f.type with
     |none=>rfl
     |some b=>cases b<;>rfl
   |_=>rfl
 |_=>
  have e:∀(o:Option (Nat×Nat×Bool)) (y:AV),(∀cs,y≠.agg cs)→MP o y K=False:=fun o y h=>by
   unfold MP
   grind
  grind
structure fins (P:Program) (l:Nat) (H:Hp) (rs:List ResultVar) (Post:AV→Hp→Prop) (e:Exit) (σ:St):Prop where
 he:e=.normal∨e=.ret
 hy:D5 P σ rs (fun xs=>∃y,Fz σ.H l (C6 xs) y∧Post y (GV l σ.H H))
inductive Fit:D→Prop
 |int (k:IntKind) (n:Int):Fit (.int k n)
 |bool (b:Bool):Fit (.bool b)
 |str (s:ByteArray) (h:s.size<2147483648):Fit (.str s)
 |list (es:List (List D)) (hl:es.length<2147483648) (h:∀e∈es,∀x∈e,Fit x):Fit (.list es)
def IN(l:List D):Prop:=∀d∈l,Fit d
theorem Fit.len{α:Type}{e:α→List D}{xs:List α}(h:Fit (.list (xs.map e))):xs.length<2147483648:=by
 cases h with|list _ hl h=>simpa using hl
theorem Fit.mem{α:Type}{e:α→List D}{xs:List α}(h:Fit (.list (xs.map e))){x:α}(a:x∈xs):IN (e x):=by
 cases h with|list _ hl h=>exact h _ (LS a)
theorem Fit.el{α:Type}{e:α→List D}{xs:List α}(h:Fit (.list (xs.map e))){i:Nat}{x:α}(a:xs[i]?=some x):IN (e x):=h.mem (Yu a)
theorem IN.at{l:List D}(h:IN l)(i:Nat){d:D}(hi:l[i]?=some d):Fit d:=h d (Yu hi)
theorem IN.sub{l:List D}(h:IN l)(i n:Nat){m:List D}(hi:(l.drop i).take n=m):IN m:=by
 subst hi
 exact fun d a=>h d (O4 (O5 a))
def nrm:AV→AV
 |.e0=>.d (.list [])
 |.agg xs=>.agg (xs.map fun x=>match x with|.e0=>.d (.list [])|x=>x)
 |x=>x
section
variable {P:Program} {l n:Nat} {B:Base} {H H':Hp} {K:St→Prop} {σ σ':St} {Q:Exit→St→Prop} {s:Nat→AV} {ds:List (Option Nat)} {d:Option Nat} {op:Op} {ty:TypeId} {ps:String} {af:Array Edge} {rest:List Oper}
 {g:Option (Nat×Bool)} {x y:Operand} {t:TypeId}
theorem dQ{a b:Code}(h:Bz P l n B a (qm (Bz P l n B b Q) Q) σ):Bz P l n B (.seq a b) Q σ:=ZGZ fun _ c=>Gs h fun e σ' h=>by
 cases e<;>first|exact c σ' h|exact h
theorem KI{a:Int}{i:Nat}(h:a=(i:Int))(hi:i<9223372036854775808):IntKind.wrap .i64 a=(i:Int):=by
 subst h
 exact IntWalk.i64_in _ ⟨by omega,by omega⟩
theorem ZxG{f:FuncId}{fn:Func}(g:List ResultVar){c:Code}{xs:List AV}{a:AV→Hp→Prop}(j:P.funcs[f]?=some fn)(i:fn.body=some c)(b:(fn.name== "runtime.NumGoroutine")=false)
  (k:fn.ntmps=n) (m:fn.results.toList=g) (o:xs.length≤n) (h:∀B:Base,Bz P l n B c (fins P l H g a) ⟨args xs,CN l H⟩):Zcq P f l xs H a:=by
 refine ZvP j i b k o fun B=>Gs (h B) fun e σ d=>?_
 unfold tf
 rw[m]
 exact⟨d.he,d.hy⟩
theorem Fz.data{xs:List D}:Fz H' l (.agg (xs.map .d)) (.agg (xs.map .d)):=
 .agg _ _ rfl fun i x y a hy=>by
  rw[a]at hy;cases hy
  rw[YO]at a
  cases hi:xs[i]? with
  |none=>rw[hi]at a;cases a
  |some d=>rw[hi]at a;cases a;exact .keep _ rfl
theorem Fz.pure{xs:List AV}{ds:List D}(h:Cm xs=some ds):Fz H' l (.agg xs) (.agg (ds.map .d)):=
 .agg _ _ (by rw[YL];exact dh h) fun i x y a hy=>by
  rw[YO]at hy
  cases hi:ds[i]? with
  |none=>rw[hi]at hy;cases hy
  |some d=>
   rw[hi]at hy;cases hy
   have:=wZ h a hi
   cases x<;>simp only[Dj]at this<;>cases this
   ·exact .keep _ rfl
   ·exact .e0
theorem Fz.d'{x:AV}{y:D}(h:x=.d y):Fz H' l x (.d y):=by subst h;exact .keep _ rfl
theorem Fz.two{x y x' e:AV}(f:Fz H' l x x')(hy:Fz H' l y e):Fz H' l (C6 [x,y]) (.tup [x',e]):=
 .tup _ _ rfl fun i a b c d=>by
  match i with
  |0=>cases c;cases d;exact f
  |1=>cases c;cases d;exact hy
  |i+2=>simp at c
theorem Fz.one{x x':AV}(a:Fz H' l x x'):Fz H' l (C6 [x]) x':=a
theorem RepA.nrm{S:Nat→Prop}{m:Mu}{w:World}{x:AV}{v:Value}(h:RepA w S H m l x v):RepA w S H m l (nrm x) v:=by
 cases x with
 |e0=>exact h.e0_d
 |agg xs=>
  cases h with
  |agg _ vs c a h=>
   refine .agg _ _ (by simpa using c) a (fun i y v hy b=>?_)
   rw[YO]at hy
   cases hi:xs[i]? with
   |none=>rw[hi]at hy;cases hy
   |some x=>
    rw[hi]at hy
    simp only[Y3,Yq]at hy
    subst hy
    have:=h i x v hi b
    split
    ·exact this.e0_d
    grind
 |_=>exact h
theorem Zcq.nrm{f:FuncId}{xs:List AV}{a:AV→Hp→Prop}(h:Zcq P f l (xs.map nrm) H a):Zcq P f l xs H a:=
 ⟨h.1,fun m S w vs d c=>h.2 m S w vs d ⟨by simpa using c.1,fun i x v b e=>by
  rw[YO]at b
  cases hi:xs[i]? with
  |none=>rw[hi]at b;cases b
  |some y=>
   rw[hi]at b
   simp only[Y3,Yq]at b
   subst b
   exact(c.2 i y v hi e).nrm⟩⟩
end
def NG:List Operand→List Nat
 |[]=>[]
 |.tmp t::r=>t::NG r
 |_::r=>NG r
def JR:List (Option Nat)→Nat→Option Nat
 |[],_=>none
 |x::_,0=>x
 |_::r,i+1=>JR r i
def ES(ds:List (Option Nat))(o:Oper):List Nat:=
 NG o.op.operands.toList++match o.guard with
  |some (g,_)=>(match JR ds g with|some d=>[d]|none=>[])
  |none=>[]
def EO:List (Nat×Nat)→Nat→Option Nat
 |[],_=>none
 |(d,k)::r,t=>match Nat.beq d t with|true=>some k|false=>EO r t
def BS(o:Oper)(i:Nat):Bool:=o.after.toList.any fun e=>Region.binds .any e&&Nat.beq e.on i
def clear(o:Oper)(d:Nat):List (Nat×Nat)→Bool
 |[]=>true
 |(t,i)::r=>(match Nat.beq t d with|true=>BS o i|false=>true)&&clear o d r
theorem w9{o:Oper}{d i:Nat}:∀{l:List (Nat×Nat)},clear o d l=true→(d,i)∈l→BS o i=true
 |[],_,h=>by cases h
 |(t,j)::r,a,h=>by
  simp only[clear,Ya]at a
  rcases YM.1 h with h|h
  ·cases h
   have:=a.1
   rw[OS]at this
   exact this
  ·exact w9 a.2 h
def Lh(ds:List (Option Nat)):Nat→List (Nat×Nat)→List (Nat×Nat)→List Oper→Bool
 |_,_,_,[]=>true
 |k,seen,a,o::r=>
  (o.after.toList.all fun e=>!Region.binds .any e||Nat.ble (e.on+1) k)&&
  ((ES ds o).all fun t=>match EO seen t with|some i=>BS o i|none=>true)&&
  match o.dst with
  |some d=>(EO seen d).isNone&&clear o d a&&Lh ds (k+1) ((d,k)::seen) ((ES ds o).map (·,k)++a) r
  |none=>Lh ds (k+1) seen ((ES ds o).map (·,k)++a) r
def Tg:List Oper→Bool
 |[]=>true
 |o::r=>(match o.op with|.select _ _=>false|_=>true)&&Tg r
def SS(ops:List Oper):Bool:=Tg ops&&Lh (ops.map (·.dst)) 0 [] [] ops
theorem Zuo(xs:List Operand):NG xs=xs.filterMap fun|.tmp t=>some t|_=>none:=by
 induction xs with
 |nil=>rfl
 |cons x xs a=>cases x<;>simp[NG,a]
theorem xP:∀(ds:List (Option Nat)) (i:Nat),JR ds i=(ds[i]?).join
 |[],i=>by simp[JR]
 |x::r,0=>by simp[JR]
 |x::r,i+1=>by simp[JR,xP r i]
theorem wS(ops:List Oper)(o:Oper):ES (ops.map (·.dst)) o=o.looksAt ops.toArray:=by
 unfold ES Oper.looksAt
 rw[Zuo]
 congr 1
 cases d:o.guard with
 |none=>rfl
 |some a=>
  obtain⟨g,b⟩:=a
  simp only
  rw[xP,YO]
  simp only[O3]
  cases ops[g]? with
  |none=>rfl
  |some c=>simp only[Y3,Option.join_some,Yi];cases c.dst<;>rfl
structure FInv (ds:List (Option Nat)) (pre:List Oper) (seen:List (Nat×Nat)) (looked:List (Nat×Nat)):Prop where
 s1:∀d i,EO seen d=some i→∃o,pre[i]?=some o∧o.dst=some d
 s2:∀(i:Nat) (o:Oper) (d:Nat),pre[i]?=some o→o.dst=some d→EO seen d=some i
 lo:∀(i:Nat) (o:Oper),pre[i]?=some o→∀t∈ES ds o,(t,i)∈looked
def Sl(ds:List (Option Nat))(x y:Oper):Prop:=(∀d,x.dst=some d→d∉ES ds y∧y.dst≠some d)∧(∀d,y.dst=some d→d∉ES ds x)
theorem vi(ds:List (Option Nat)):∀(rest pre:List Oper) (seen c:List (Nat×Nat)),FInv ds pre seen c→Lh ds pre.length seen c rest=true→
  ∀(j:Nat) (p:Oper),rest[j]?=some p→(∀e∈p.after,Region.binds .any e=true→e.on<pre.length+j)∧
   ∀(i:Nat) (n:Oper),i<pre.length+j→(pre++rest)[i]?=some n→BS p i=true∨Sl ds n p
 |[],pre,seen,c,u,h,j,p,A=>by simp at A
 |o::r,pre,seen,c,u,h,j,p,A=>by
  simp only[Lh,Ya]at h
  obtain⟨⟨G,H⟩,s⟩:=h
  cases j with
  |zero=>
   simp only[Y7,Yq]at A
   subst A
   refine⟨fun e he D=>?_,fun i n hi g=>?_⟩
   ·have:=Yy.1 G e (by simpa using he)
    simp only[D,Y5,Hb]at this
    have:=Yo this
    omega
   ·rw[Yt (by omega)]at g
    by_cases z:BS o i=true
    ·exact .inl z
    ·right
     refine⟨fun d v=>⟨fun hm=>?_,fun k=>?_⟩,fun d v hm=>?_⟩
     ·have:=Yy.1 H d hm
      rw[u.s2 i n d g v]at this
      exact z this
     ·rw[k]at s
      simp only[Ya]at s
      have:=s.1.1
      rw[u.s2 i n d g v]at this
      cases this
     ·rw[v]at s
      simp only[Ya]at s
      exact z (w9 s.1.2 (u.lo i n g d hm))
  |succ j=>
   simp only[Im]at A
   have q:∀(f:List (Nat×Nat)),(∀d i,EO f d=some i→∃m,(pre++[o])[i]?=some m∧m.dst=some d)→(∀(i:Nat) (m:Oper) (d:Nat),(pre++[o])[i]?=some m→m.dst=some d→EO f d=some i)→
     FInv ds (pre++[o]) f ((ES ds o).map (·,pre.length)++c):=fun f a b=>⟨a,b,fun i m g t F=>by
    rcases Pa i pre.length with l|heq|B
    ·rw[Yt l]at g;exact List.mem_append_right _ (u.lo i m g t F)
    ·subst heq;simp at g;subst g;exact Ic _ (Y0.2 ⟨t,F,rfl⟩)
    ·rw[YT (by simp;omega)]at g;cases g⟩
   have fin:∀f,FInv ds (pre++[o]) f ((ES ds o).map (·,pre.length)++c)→Lh ds (pre.length+1) f ((ES ds o).map (·,pre.length)++c) r=true→_:=fun f C J=>
    vi ds r (pre++[o]) f ((ES ds o).map (·,pre.length)++c) C (by simpa using J) j p A
   have conv:(∀e∈p.after,Region.binds .any e=true→e.on<(pre++[o]).length+j)∧(∀(i:Nat) (n:Oper),i<(pre++[o]).length+j→(pre++[o]++r)[i]?=some n→BS p i=true∨Sl ds n p)→
     (∀e∈p.after,Region.binds .any e=true→e.on<pre.length+(j+1))∧(∀(i:Nat) (n:Oper),i<pre.length+(j+1)→(pre++o::r)[i]?=some n→BS p i=true∨Sl ds n p):=by
    rintro⟨a,b⟩
    simp only[Yv,Db,Fh,Eg,L6,G9]at a b
    exact⟨fun e he D=>by have:=a e he D;omega,fun i n hi g=>b i n (by omega) g⟩
   split at s
   ·rename_i d v
    simp only[Ya]at s
    obtain⟨⟨E,K⟩,I⟩:=s
    have y:EO seen d=none:=by cases w:EO seen d with|none=>rfl|some i=>rw[w]at E;cases E
    refine conv (fin _ (q ((d,pre.length)::seen) (fun d' i w=>?_) (fun i m d' g k=>?_)) I)
    ·simp only[EO]at w
     split at w
     ·rename_i he;cases w;rw[←Yc he];exact⟨o,by simp,v⟩
     ·obtain⟨m,a,b⟩:=u.s1 d' i w
      refine⟨m,?_,b⟩
      rw[Yt];exact a
      rcases YH i pre.length with l|x
      ·exact l
      ·rw[YT x]at a;cases a
    ·simp only[EO]
     rcases Pa i pre.length with l|heq|B
     ·rw[Yt l]at g
      have:=u.s2 i m d' g k
      split
      ·rename_i he
       rw[←Yc he,y]at this;cases this
      ·exact this
     ·subst heq;simp at g;subst g;rw[v]at k;cases k;simp
     ·rw[YT (by simp;omega)]at g;cases g
   ·rename_i v
    refine conv (fin _ (q seen (fun d' i w=>?_) (fun i m d' g k=>?_)) s)
    ·obtain⟨m,a,b⟩:=u.s1 d' i w
     refine⟨m,?_,b⟩
     rw[Yt];exact a
     rcases YH i pre.length with l|x
     ·exact l
     ·rw[YT x]at a;cases a
    ·rcases Pa i pre.length with l|heq|B
     ·rw[Yt l]at g;exact u.s2 i m d' g k
     ·subst heq;simp at g;subst g;rw[v]at k;cases k
     ·rw[YT (by simp;omega)]at g;cases g
theorem Zkq{ops:List Oper}{x y:Oper}(h:Sl (ops.map (·.dst)) x y):x.apart ops.toArray y=true:=by
 obtain⟨a,c⟩:=h
 rw[wS]at c
 have b:∀d,x.dst=some d→d∉y.looksAt ops.toArray∧y.dst≠some d:=fun d e=>by have:=a d e;rw[wS]at this;exact this
 unfold Oper.apart
 grind
theorem vK{ops:Array Oper}(m:∀(j:Nat) (c:Oper),ops[j]?=some c→∀e∈c.after,Region.binds .any e=true→e.on<j)
  (n:∀(i j:Nat) (o c:Oper),i<j→ops[i]?=some o→ops[j]?=some c→BS c i=true∨o.apart ops c=true):
  ∀(fuel k:Nat) (a:Array Bool),fuel+k=ops.size→a.size=ops.size→(∀j,j<ops.size→a[j]?=some (decide (j<k)))→Region.lexFrom .any ops fuel k a=true
 |0,k,a,q,hs,hl=>by
  simp only[Region.lexFrom]
  rw[List.isEmpty_iff,Region.ready,mq]
  intro i hi
  have hi:=Mc.1 hi
  have:=hl i hi
  simp[YD,this]
  omega
 |fuel+1,k,a,q,hs,hl=>by
  have g:k<ops.size:=by omega
  have b:ops[k]?=some ops[k]:=Yx g
  simp only[Region.lexFrom,Ya]
  refine⟨⟨?_,?_⟩,vK m n fuel (k+1) _ (by omega) (by simp[hs]) (fun j d=>?_)⟩
  ·rw[List.contains_iff_mem]
   unfold Region.ready
   refine Eh.2 ⟨Mc.2 g,?_⟩
   rw[Ya]
   refine⟨by simp[YD,hl k g],?_⟩
   rw[b]
   simp only[Y3,YQ]
   rw[Array.all_eq_true_iff_forall_mem]
   intro e he
   by_cases p:Region.binds .any e=true
   ·have:=m k _ b e he p
    simp[YD,hl e.on (by omega),this]
   grind
  ·unfold Region.free
   rw[b]
   simp only[Yy,Mc]
   intro j d
   rw[Yj,Yj]
   rcases Pa j k with l|heq|f
   ·left;right;simp[YD,hl j d,l]
   ·grind
   ·right
    rw[Yx d]
    simp only
    rw[Yj]
    rcases n k j _ _ f b (Yx d)with h|h
    ·left
     unfold BS at h
     obtain⟨e,he,h⟩:=YW.1 h
     rw[←Array.any_toList]
     exact YW.2 ⟨e,he,by simpa using h⟩
    grind
  grind
theorem vt{ops:List Oper}(h:SS ops=true):Region.lexB .any ops.toArray=true:=by
 unfold SS at h
 rw[Ya]at h
 have g:∀(l:List Oper),Tg l=true→l.all (fun o=>match o.op with|.select ..=>false|_=>true)=true:=fun l=>by
  induction l with
  |nil=>intro _;rfl
  |cons o l p=>
   intro m
   simp only[Tg,Ya]at m
   grind
 have key:=vi (ops.map (·.dst)) ops [] [] [] ⟨fun d i k=>by simp[EO]at k,fun i o d e=>by simp at e,fun i o e=>by simp at e⟩ h.2
 simp only[Fh,YP,G9]at key
 unfold Region.lexB
 rw[Ya]
 refine⟨?_,vK (fun j f b=>(key j f (by simpa using b)).1) (fun i j n f c hi b=>?_) _ 0 _ rfl (by simp) (fun j b=>by simp at b⊢;simp[b])⟩
 ·unfold Region.noSelect
  grind
 ·rcases(key j f (by simpa using b)).2 i n c (by simpa using hi)with a|a
  ·grind
  ·exact .inr (Zkq a)
structure TI where
 agg:Bool:=false
 kin:Nat:=0
 siz:Nat:=1
 elm:Option (Nat×Nat):=none
 fld:List (Nat×Nat×Bool):=[]
 zer:Option (List AV):=none
 eqt:Option (List Nat):=none
 str:Bool:=false
 ik:Option IntKind:=none
 byt:Option Nat:=none
 mp:Option (Bool×List D):=none
def AV.flat:AV→Bool
 |.d _|.e0|.p _|.iptr _ _=>true
 |_=>false
structure TIok (P:Program) (t:TypeId) (i:TI):Prop where
 agg:C7 P t=some i.agg
 kin:kin P t=i.kin
 siz:P.cellsOf t=i.siz
 elm:∀e,i.elm=some e→Go.Eng.elm P t=some e
 fld:∀(j:Nat) (x:Nat×Nat×Bool),i.fld[j]?=some x→Go.Eng.fld P t j=some (x.1,x.2.1)∧JJ P t j=some x
 zer:∀z,i.zer=some z→Go.Eng.zer P t=some z
 eqt:∀z,i.eqt=some z→Lu P t=some z
 str:i.str=true→JY P t=true
 ik:∀z,i.ik=some z→P.underlying t=some (.int z)
 byt:∀z,i.byt=some z→P.bytesOf t≤z∧P.bytesOf t≠0
 flt:∀z,i.zer=some z→z.all AV.flat=true
 mp:∀z,i.mp=some z→GG P t=some z
def A7(P:Program)(T:Nat→Option TI):Prop:=∀t i,T t=some i→TIok P t i
inductive AT where
 |nil
 |go (r:AT)
 |av (x:AV) (r:AT)
 |cs (c:List AV) (r:AT)
 |ds (e:List D) (r:AT)
 |num (n:Int) (r:AT)
 |nat (n:Nat) (r:AT)
 |call (x:AV) (ks:List Ac) (r:AT)
 |callH (x:AV) (ks:List Ac) (hb:List (Ac×List AV)) (r:AT)
 |br (a b:AT)
 |frz (d:Nat) (js:List (Nat×List (List D))) (cs:List (Ac×Nat×List (List D))) (r:AT)
 |adc (k:Ac) (i d:Nat) (e:TypeId) (sz:Nat) (r:AT)
 |mv (d j:Nat) (r:AT)
 |ads (j d:Nat) (e:TypeId) (sz:Nat) (r:AT)
 |trim (k:Ac) (c:List AV) (r:AT)
 |reb (j d m:Nat) (c:List AV) (r:AT)
 |sep (r:AT)
 |hard (x:AV) (ks:List Ac) (hb:List (Ac×Blk)) (fr:List Ac) (r:AT)
 |ents (es:List (List D)) (r:AT)
 |all (a:AT) (f:Nat→AT)
 |fzm (d:Nat) (js:List Nat) (r:AT)
 |fzb (d:Nat) (js:List Nat) (r:AT)
 |rnm (d d' e i:Nat) (r:AT)
 |mvc (d q e i:Nat) (r:AT)
 |one (v:Bool) (r:AT)
structure Ren where
 κ:Ac→Ac
 γ:Ac→Nat
 θ:Nat→AV
 H0:Hp
 no:Ac→Prop
mutual
def ren(r:Ren):AV→AV
 |.ref k g off n=>.ref (r.κ k) (r.γ k+g) off n
 |.ptr k g off=>.ptr (r.κ k) (r.γ k+g) off
 |.mp k g=>.mp (r.κ k) (r.γ k+g)
 |.fn f xs ys=>match f with
  |.yield i=>r.θ i
  |f=>.fn f (Am r xs) (Am r ys)
 |.agg xs=>.agg (Am r xs)
 |.tup xs=>.tup (Am r xs)
 |.top=>.top
 |.d x=>.d x
 |.e0=>.e0
 |.p x=>.p x
 |.iptr cs off=>.iptr cs off
 |.ifc t ds a=>.ifc t ds a
def Am(r:Ren):List AV→List AV
 |[]=>[]
 |x::xs=>ren r x::Am r xs
end
def AI(r:Ren)(k:Ac)(b:Blk):Blk:=⟨r.γ k+b.g,true,b.e,b.sz,Am r b.cells⟩
theorem EH{r:Ren}(xs:List AV):Am r xs=xs.map (ren r):=by
 induction xs with
 |nil=>simp[Am]
 |cons x xs a=>simp[Am,a]
theorem Cd{r:Ren}(xs:List AV):(Am r xs).length=xs.length:=by rw[EH,YL]
theorem FP{r:Ren}(xs ys:List AV):Am r (xs++ys)=Am r xs++Am r ys:=by simp[EH]
theorem Ek{r:Ren}(xs:List AV)(n:Nat):(Am r xs).drop n=Am r (xs.drop n):=by simp[EH]
theorem EG{r:Ren}(xs:List AV)(n:Nat):(Am r xs).take n=Am r (xs.take n):=by simp[EH]
theorem Gw{r:Ren}(xs:List AV)(n:Nat):(Am r xs)[n]?=(xs[n]?).map (ren r):=by simp[EH]
theorem Gy{r:Ren}(xs:List D):Am r (xs.map .d)=xs.map .d:=by
 induction xs with
 |nil=>simp[Am]
 |cons x xs a=>simp only[Y9,Am,ren,a]
theorem Zw7{r:Ren}{xs:List AV}(h:xs≠[]):Am r xs≠[]:=by cases xs<;>simp_all[Am]
def C3(r:Ren)(H a:Hp):Prop:=∀k,(H k).live=true→a (r.κ k)=AI r k (H k)
def Bj{α:Type}:List α→Nat→Option α
 |[],_=>none
 |x::_,0=>some x
 |_::xs,i+1=>Bj xs i
theorem BY{α:Type}:∀(xs:List α) (i:Nat),Bj xs i=xs[i]?
 |[],i=>by simp[Bj]
 |x::xs,0=>by simp[Bj]
 |x::xs,i+1=>by simp[Bj,BY xs i]
def HG{α:Type}:Nat→List α→Option (List α)
 |0,_=>some []
 |n+1,x::xs=>match HG n xs with|some r=>some (x::r)|none=>none
 |_+1,[]=>none
theorem dC{α:Type}:∀(n:Nat) (xs r:List α),HG n xs=some r→xs.take n=r∧n≤xs.length
 |0,xs,r,h=>by simp only[HG,Yq]at h;subst h;simp
 |n+1,[],r,h=>by simp[HG]at h
 |n+1,x::xs,r,h=>by
  simp only[HG]at h
  split at h
  ·rename_i q a
   cases h
   obtain⟨b,c⟩:=dC n xs q a
   grind
  ·cases h
def Bt(H:Hp)(k:Ac)(g:Nat):Bool:=Nat.beq g (H k).g&&(H k).live
theorem De{H:Hp}{k:Ac}{g:Nat}(h:Bt H k g=true):g=(H k).g∧(H k).live=true:=by
 simp only[Bt,Ya]at h
 exact⟨Yc h.1,h.2⟩
theorem C3.at{r:Ren}{H a:Hp}(h:C3 r H a){k:Ac}{g:Nat}(hl:Bt H k g=true):r.γ k+g=(a (r.κ k)).g∧(a (r.κ k)).live=true∧(a (r.κ k)).e=(H k).e∧(a (r.κ k)).sz=(H k).sz∧(a (r.κ k)).cells=Am r (H k).cells:=by
 obtain⟨b,c⟩:=De hl
 rw[h k c]
 subst b
 exact⟨rfl,rfl,rfl,rfl,rfl⟩
def Be(g:Option Bool)(S:Prop):Prop:=
 match g with
 |none=>S
 |some b=>b=true→S
theorem Bo{g:Option Bool}{S:Prop}(a:∀b,g=some b→b=true)(h:Be g S):S:=by
 unfold Be at h
 grind
def DB(cs:List AV)(off:Nat)(c:List AV):Prop:=(cs.drop off).take c.length=c
def HP(es:List (List D))(n:Int)(e:List D):Prop:=0≤n∧es[n.toNat]?=some e
def J4(n:Int)(len off sz o:Nat):Prop:=0≤n∧n<len∧(off+n.toNat)*sz=o
def Hk(s:ByteArray)(n b:Int):Prop:=0≤n∧∃x:UInt8,s.data.toList[n.toNat]?=some x∧b=x.toNat
def B8(k:IntKind)(a r:Int):Prop:=k.wrap a=r
def Bs(a b:Int):Prop:=a=b
def OO(a b:Int):Prop:=a≠b
def ON(a b:Int):Prop:=a≤b
def tt(a b:ByteArray):Prop:=a.size+b.size≤9223372036854775807
def CI(dflt:Nat)(o:Option AV)(l:Nat):Prop:=
 match o with
 |none=>l=dflt
 |some (.d (.int _ n))=>n=l
 |_=>False
def Ee(l h n:Nat):Prop:=l≤h∧h≤n
def LN(es:List (List D))(sz l h:Nat)(a:List (List D)):Prop:=(∀e,e∈es→e.length=sz)∧(es.drop l).take (h-l)=a
def UI(off l h o n:Nat):Prop:=off+l=o∧h-l=n
def Vg(t:Bool)(a b:AV):AV:=
 match a,b with
 |.d (.bool x),.d (.bool y)=>.d (.bool (cond t x y))
 |a,b=>cond t a b
theorem Zyf(t:Bool)(a b:AV):Vg t a b=if t then a else b:=by
 unfold Vg
 grind
def Lb(i:TI)(H:Hp)(x:AV)(g:Option Bool)(a:AT)(K:AV→AT→Prop):Prop:=
 match x with
 |.iptr cs off=>match i.agg with
  |true=>match Nat.ble 1 i.siz,HG i.siz (cs.drop off)with|true,some c=>K (.agg (c.map .d)) a|_,_=>False
  |false=>match Bj cs off with|some c=>K (.d c) a|none=>False
 |.ptr k q off=>match Bt H k q with
  |true=>match a with
   |.go r=>(match i.agg with
    |true=>match Nat.ble 1 i.siz,HG i.siz ((H k).cells.drop off)with|true,some c=>K (.agg c) r|_,_=>False
    |false=>match Bj (H k).cells off with|some c=>K c r|none=>False)
   |.cs c r=>(match i.agg with
    |true=>match Nat.ble 1 i.siz,Nat.beq c.length i.siz with|true,true=>Be g (DB (H k).cells off c)∧K (.agg c) r|_,_=>False
    |false=>match c with|[x]=>Be g (DB (H k).cells off [x])∧K x r|_=>False)
   |_=>False
  |false=>False
 |_=>False
def Ri(i:TI)(H:Hp)(f:Nat)(x:AV)(a:AT)(K:AV→AT→Prop):Prop:=
 match Bj i.fld f with
 |some (o,n,_)=>match Nat.ble 1 n with
  |true=>(match x with
   |.iptr cs off=>K (.iptr cs (off+o)) a
   |.ptr k q off=>match Bt H k q with|true=>K (.ptr k q (off+o)) a|false=>False
   |_=>False)
  |false=>False
 |none=>False
def Ss(i:TI)(f:Nat)(x:AV)(a:AT)(K:AV→AT→Prop):Prop:=
 match Bj i.fld f,x with
 |some (o,n,true),.agg cs=>(match Nat.ble 1 n with|true=>K (.agg ((cs.drop o).take n)) a|false=>False)
 |some (o,_,false),.agg cs=>(match Bj cs o with|some c=>K c a|none=>False)
 |_,_=>False
def Rk(i:TI)(H:Hp)(x j:AV)(g:Option Bool)(a:AT)(K:AV→AT→Prop):Prop:=
 match i.elm,j with
 |some (_,sz),.d (.int _ n)=>(match x,a with
  |.d (.list es),.ds e r=>(match Nat.beq e.length sz,Nat.ble 1 sz with|true,true=>Be g (HP es n e)∧K (.iptr e 0) r|_,_=>False)
  |.ref k q off len,.nat o r=>(match Bt H k q,Nat.beq (H k).sz sz,Nat.ble 1 sz with|true,true,true=>Be g (J4 n len off sz o)∧K (.ptr k q o) r|_,_,_=>False)
  |_,_=>False)
 |_,_=>False
def RY(i:TI)(x j:AV)(g:Option Bool)(a:AT)(K:AV→AT→Prop):Prop:=
 match x,j,a with
 |.d (.str s),.d (.int _ n),.num b r=>(match Nat.beq i.kin 2 with|true=>Be g (Hk s n b)∧K (.d (.int .u8 b)) r|false=>False)
 |_,_,_=>False
def Qn(op:BinOp)(k:IntKind)(x y:Int)(g:Option Bool)(a:AT)(K:AV→AT→Prop):Prop:=
 match op with
 |.eql=>K (.d (.bool (decide (x=y)))) a
 |.neq=>K (.d (.bool (!decide (x=y)))) a
 |.lss=>K (.d (.bool (decide (x<y)))) a
 |.leq=>K (.d (.bool (decide (x≤y)))) a
 |.gtr=>K (.d (.bool (decide (y<x)))) a
 |.geq=>K (.d (.bool (decide (y≤x)))) a
 |.add=>match a with|.num n r=>Be g (B8 k (x+y) n)∧K (.d (.int k n)) r|_=>False
 |.sub=>match a with|.num n r=>Be g (B8 k (x-y) n)∧K (.d (.int k n)) r|_=>False
 |.mul=>match a with|.num n r=>Be g (B8 k (x*y) n)∧K (.d (.int k n)) r|_=>False
 |.quo=>match a with|.num n r=>Be g (OO y 0)∧Be g (B8 k (x.tdiv y) n)∧K (.d (.int k n)) r|_=>False
 |.rem=>match a with|.num n r=>Be g (OO y 0)∧Be g (Bs (x.tmod y) n)∧K (.d (.int k n)) r|_=>False
 |.shr=>match a with|.num n r=>Be g (ON 0 y)∧Be g (Bs (x.fdiv (2^(min y.toNat k.bits))) n)∧K (.d (.int k n)) r|_=>False
 |.shl=>match a with|.num n r=>Be g (ON 0 y)∧Be g (B8 k (x*2^(min y.toNat k.bits)) n)∧K (.d (.int k n)) r|_=>False
 |.and=>match a with|.num n r=>Be g (Bs (CL k x y) n)∧K (.d (.int k n)) r|_=>False
 |.or=>match a with|.num n r=>Be g (Bs (FF k x y) n)∧K (.d (.int k n)) r|_=>False
 |.xor=>match a with|.num n r=>Be g (Bs (Kb k x y) n)∧K (.d (.int k n)) r|_=>False
 |_=>False
def Pw(op:BinOp)(x y:ByteArray)(g:Option Bool)(a:AT)(K:AV→AT→Prop):Prop:=
 match op with
 |.add=>Be g (tt x y)∧K (.d (.str (x++y))) a
 |.eql=>K (.d (.bool (decide (x=y)))) a
 |.neq=>K (.d (.bool (!decide (x=y)))) a
 |.lss=>K (.d (.bool (Bm x y))) a
 |.leq=>K (.d (.bool (Bm x y||decide (x=y)))) a
 |.gtr=>K (.d (.bool (!(Bm x y||decide (x=y))))) a
 |.geq=>K (.d (.bool (!Bm x y))) a
 |_=>False
def Kf(H:Hp)(neg:Bool)(x:AV)(a:AT)(K:AV→AT→Prop):Prop:=
 match x with
 |.e0=>∀b,K (.d (.bool b)) a
 |.d (.list es)=>∀b,(es≠[]→b=neg)→K (.d (.bool b)) a
 |.ref k q _ n=>(match Bt H k q with|true=>∀b,(n≠0→b=neg)→K (.d (.bool b)) a|false=>False)
 |_=>False
def zI:IntKind→IntKind→Bool
 |.i8,.i8|.i16,.i16|.i32,.i32|.i64,.i64|.u8,.u8|.u16,.u16|.u32,.u32|.u64,.u64=>true
 |_,_=>false
theorem ZLv{a b:IntKind}(h:zI a b=true):a=b:=by cases a<;>cases b<;>first|rfl|cases h
def Ps(i:TI)(H:Hp)(op:BinOp)(c:Bool)(x y:AV)(g:Option Bool)(a:AT)(K:AV→AT→Prop):Prop:=
 match x,y with
 |.d (.int k m),.d (.int k' n)=>(match zI k k' with|true=>Qn op k m n g a K|false=>False)
 |.d (.str m),.d (.str n)=>Pw op m n g a K
 |.d (.bool m),.d (.bool n)=>(match Nat.beq i.kin 1 with
  |true=>(match op with
   |.eql=>K (.d (.bool (m==n))) a
   |.neq=>K (.d (.bool (!(m==n)))) a
   |_=>False)
  |false=>False)
 |.agg xs,.agg ys=>(match i.eqt with
  |some ks=>(match D1 ks xs ys with
   |some b=>(match op with
    |.eql=>K (.d (.bool b)) a
    |.neq=>K (.d (.bool (!b))) a
    |_=>False)
   |none=>False)
  |none=>False)
 |x,.e0=>(match c,Nat.beq i.kin 4 with
  |true,true=>(match op with
   |.eql=>Kf H false x a K
   |.neq=>Kf H true x a K
   |_=>False)
  |_,_=>False)
 |_,_=>False
def Uk(op:UnOp)(x:AV)(g:Option Bool)(a:AT)(K:AV→AT→Prop):Prop:=
 match op,x with
 |.not,.d (.bool b)=>K (.d (.bool (!b))) a
 |.neg,.d (.int k n)=>(match a with|.num m r=>Be g (B8 k (0-n) m)∧K (.d (.int k m)) r|_=>False)
 |.xor,.d (.int k n)=>(match a with|.num m r=>Be g (Bs (HT k n) m)∧K (.d (.int k m)) r|_=>False)
 |_,_=>False
def Tw(s d:TI)(x:AV)(g:Option Bool)(a:AT)(K:AV→AT→Prop):Prop:=
 match x with
 |.d (.int _ n)=>(match s.ik,d.ik,a with|some _,some k,.num m r=>Be g (B8 k n m)∧K (.d (.int k m)) r|_,_,_=>False)
 |.d (.str s')=>(match Nat.beq s.kin 2,Nat.beq d.kin 2 with|true,true=>K (.d (.str s')) a|_,_=>False)
 |_=>False
def Sb(i:TI)(H:Hp)(x:AV)(lo hi:Option AV)(e:Bool)(g:Option Bool)(a:AT)(K:AV→AT→Prop):Prop:=
 match e,a with
 |false,.nat l (.nat h r)=>(match x with
  |.d (.str s)=>(match Nat.beq i.kin 2 with|true=>Be g (CI 0 lo l)∧Be g (CI s.size hi h)∧Be g (Ee l h s.size)∧K (.d (.str (s.extract l h))) r|false=>False)
  |.d (.list es)=>(match i.elm,r with
   |some (_,sz),.av (.d (.list b)) r=>(match Nat.ble 1 sz with
    |true=>Be g (CI 0 lo l)∧Be g (CI es.length hi h)∧Be g (Ee l h es.length)∧Be g (LN es sz l h b)∧K (.d (.list b)) r
    |false=>False)
   |_,_=>False)
  |.ref k q off n=>(match i.elm,r,Bt H k q with
   |some (_,sz),.nat d (.nat c r),true=>(match Nat.ble 1 sz,Nat.beq (H k).sz sz with
    |true,true=>Be g (CI 0 lo l)∧Be g (CI n hi h)∧Be g (Ee l h n)∧Be g (UI off l h d c)∧K (.ref k q d c) r
    |_,_=>False)
   |_,_,_=>False)
  |_=>False)
 |_,_=>False
def Qk(i:TI)(H:Hp)(x:AV)(g:Option Bool)(a:AT)(K:AV→AT→Prop):Prop:=
 match x,a with
 |.d (.str s),.num n r=>(match Nat.beq i.kin 2 with|true=>Be g (Bs s.size n)∧K (.d (.int .i64 n)) r|false=>False)
 |.d (.list es),.num n r=>(match Nat.beq i.kin 4 with|true=>Be g (Bs es.length n)∧K (.d (.int .i64 n)) r|false=>False)
 |.e0,.num n r=>(match Nat.beq i.kin 4 with|true=>Be g (Bs 0 n)∧K (.d (.int .i64 n)) r|false=>False)
 |.ref k q _ m,.num n r=>(match Nat.beq i.kin 4,Bt H k q with|true,true=>Be g (Bs m n)∧K (.d (.int .i64 n)) r|_,_=>False)
 |_,_=>False
def fh(H:Hp):AV→Option (Bool×List (List D))
 |.d (.map q es)=>some (q,es)
 |.mp k g=>match Bt H k g,(H k).e with
  |true,.m q es=>some (q,es)
  |_,_=>none
 |_=>none
def Lq:Bool→Bool→Bool
 |true,true=>true
 |false,false=>true
 |_,_=>false
theorem ji{a b:Bool}(h:Lq a b=true):a=b:=by cases a<;>cases b<;>first|rfl|cases h
def Oe(es:List (List D))(s:ByteArray)(z vs:List D)(ok:Bool):Prop:=(EQ s es).isSome=ok∧(EQ s es).getD z=vs
def TR(i:TI)(H:Hp)(x y:AV)(b:Bool)(g:Option Bool)(a:AT)(K:AV→AT→Prop):Prop:=
 match i.mp,fh H x,y,a with
 |some (q,z),some (c,es),.d (.str s),.av (.d (.bool ok)) (.ds vs r)=>(match Lq q c with
  |true=>Be g (Oe es s z vs ok)∧K (Lw b q vs ok) r
  |false=>False)
 |_,_,_,_=>False
def ll(i:TI)(f:Nat):Option (Nat×Nat):=match Bj i.fld f with|some (o,n,_)=>some (o,n)|none=>none
def NY(i:TI)(cells:List AV):List (Nat×AV)→Option (List AV)
 |[]=>some cells
 |(f,v)::rest=>match ll i f,Cu v with
  |some (off,size),some vs=>match Nat.beq vs.length size,Nat.ble (off+vs.length) cells.length with
   |true,true=>NY i (cells.take off++vs++cells.drop (off+vs.length)) rest
   |_,_=>none
  |_,_=>none
def Sr(i:TI)(parts:List (Nat×AV))(a:AT)(K:AV→AT→Prop):Prop:=
 match i.str,i.zer with
 |true,some z=>(match NY i z parts with|some cs=>K (.agg cs) a|none=>False)
 |_,_=>False
def HM:AV→Bool
 |.fn (.yield _) _ _=>false
 |_=>true
def tV(T:Nat→Option TI)(H:Hp)(op:Op)(ρ:Operand→AV)(g:Option Bool)(a:AT)(K:AV→AT→Prop):Prop:=
 match op with
 |.move x=>K (ρ x) a
 |.assign x=>K (ρ x) a
 |.pick c x y=>match ρ c with|.d (.bool t)=>K (Vg t (ρ x) (ρ y)) a|_=>False
 |.load t x=>match T t with|some i=>Lb i H (ρ x) g a K|none=>False
 |.fieldAddr t x f=>match T t with|some i=>Ri i H f (ρ x) a K|none=>False
 |.field t x f=>match T t with|some i=>Ss i f (ρ x) a K|none=>False
 |.indexAddr t x j=>match T t with|some i=>Rk i H (ρ x) (ρ j) g a K|none=>False
 |.index t x j=>match T t with|some i=>RY i (ρ x) (ρ j) g a K|none=>False
 |.extract x j=>match ρ x with|.tup vs=>(match Bj vs j with|some y=>K y a|none=>False)|_=>False
 |.binOp o t x y _=>match T t with|some i=>Ps i H o (Hz y) (ρ x) (ρ y) g a K|none=>False
 |.unOp o _ x=>Uk o (ρ x) g a K
 |.nilCheck x=>match ρ x with|.ptr k q off=>(match Bt H k q with|true=>K (.ptr k q off) a|false=>False)|.iptr cs off=>K (.iptr cs off) a|_=>False
 |.convert s d x=>match T s,T d with|some i,some j=>Tw i j (ρ x) g a K|_,_=>False
 |.makeInterface t x=>match T t with|some i=>(match i.str||i.elm.isSome,ρ x with|true,.agg xs=>(match JT xs with|some ds=>K (.ifc t ds true) a|none=>False)|true,.d x=>K (.ifc t [x] false) a|_,_=>False)|none=>False
 |.typeAssert x _ t ok=>match T t with|some i=>(match i.str||i.elm.isSome,ρ x with|true,.ifc u ds q=>(match Nat.beq u t,upk q ds with|true,some v=>K (cond ok (.tup [v,.d (.bool true)]) v) a|_,_=>False)|_,_=>False)|none=>False
 |.makeFunc fn first b=>match fn with|.yield _=>False|fn=>K (.fn fn (first.toList.map ρ) (b.toList.map ρ)) a
 |.slice t x lo hi h=>match T t with|some i=>Sb i H (ρ x) (lo.map ρ) (hi.map ρ) h.isSome g a K|none=>False
 |.lookup t x y e=>match T t with|some i=>TR i H (ρ x) (ρ y) e g a K|none=>False
 |.build t parts=>match T t,parts.toList.all (fun p=>HM (ρ p.2))with|some i,true=>Sr i (parts.toList.map fun p=>(p.1,ρ p.2)) a K|_,_=>False
 |.call c=>match c.callee,c.args.toList,c.argTypes.toList with
  |.builtin .len,[x],[t]=>match T t with|some i=>Qk i H (ρ x) g a K|none=>False
  |.builtin .min,[x,y],_=>DN false (ρ x) (ρ y) (fun v=>K v a)
  |.builtin .max,[x,y],_=>DN true (ρ x) (ρ y) (fun v=>K v a)
  |.builtin .max,[x,y,z],_=>FY true (ρ x) (ρ y) (ρ z) (fun v=>K v a)
  |_,_,_=>False
 |_=>False
end Go.Eng
