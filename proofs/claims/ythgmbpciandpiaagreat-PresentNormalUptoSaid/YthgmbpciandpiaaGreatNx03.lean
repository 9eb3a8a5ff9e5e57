import Derived.Test.YthgmbpciandpiaaGreatNx02
import Derived.KernelRfl
import Derived.Still
import Derived.IntWalk
import Derived.Test.YthgmbpciandpiaaGreatNx00
namespace Go.Eng
set_option linter.all false
open Go Go.RowKit
def args(xs:List AV):Nat→AV:=fun i=>(xs[i]?).getD .top
def Dn(l:Nat)(H:Hp):Hp:=fun k=>if k.1≤l then H k else⟨0,false,0,0,[]⟩
def Iq(l:Nat)(H' H:Hp):Hp:=fun k=>if k.1≤l then H' k else H k
def EQ(P:Program)(σ:St):List ResultVar→(List AV→Prop)→Prop
 |[],K=>K []
 |.tmp t::rest,K=>EQ P σ rest (fun xs=>K (σ.s t::xs))
 |.cell a t::rest,K=>EN P σ.H t (σ.s a) (fun x=>EQ P σ rest (fun xs=>K (x::xs)))
def DK:List AV→AV
 |[x]=>x
 |xs=>.tup xs
inductive Fz (H:Hp) (l:Nat):AV→AV→Prop
 |keep (x:AV) (h:x.low l=true):Fz H l x x
 |e0:Fz H l .e0 (.d (.list []))
 |mp (k:Ad) (a:Bool) (es:List (List D)) (hk:k.1=l+1) (hl:(H k).live=true) (he:(H k).e=.m a es):Fz H l (.mp k (H k).g) (.d (.map a es))
 |ref (k:Ad) (off n:Nat) (es:List (List D)) (hk:k.1=l+1) (hl:(H k).live=true) (hn:es.length=n) (hz:(H k).sz≠0) (he:∀e,e∈es→e.length=(H k).sz)
   (hlen:(off+n)*(H k).sz≤(H k).cells.length)
   (h:∀(i j:Nat) (e:List D) (d:D) (x:AV),es[i]?=some e→e[j]?=some d→(H k).cells[(off+i)*(H k).sz+j]?=some x→Fz H l x (.d d)):
   Fz H l (.ref k (H k).g off n) (.d (.list es))
 |agg (xs ys:List AV) (hl:xs.length=ys.length) (h:∀(i:Nat) (x y:AV),xs[i]?=some x→ys[i]?=some y→Fz H l x y):Fz H l (.agg xs) (.agg ys)
 |tup (xs ys:List AV) (hl:xs.length=ys.length) (h:∀(i:Nat) (x y:AV),xs[i]?=some x→ys[i]?=some y→Fz H l x y):Fz H l (.tup xs) (.tup ys)
def ZYC(P:Program)(fn:Func)(l:Nat)(H:Hp)(a:AV→Hp→Prop):Exit→St→Prop:=fun e σ=>
 (e=.normal∨e=.ret)∧EQ P σ fn.results.toList (fun xs=>∃y,Fz σ.H l (DK xs) y∧a y (Iq l σ.H H))
section
variable {P:Program} {l n:Nat} {B:Base} {H H':Hp} {m m':Mu} {S S':Nat→Prop} {w w':World} {s:Nat→AV} {a:Act} {K:St→Prop} {o:Oper} {σ:St} {Q:Exit→St→Prop}
theorem Zro{t:TypeId}{v b:Value}(h:(Instr.loadAt t v).run P w=.ok b w):(do loadVar t (←asAddr v):Sem Value).run P w=.ok b w:=by
 cases v<;>try (simp[Instr.loadAt,Instr.sureAddr]at h;done)
 rename_i p
 cases p with
 |none=>simp[Instr.loadAt,Instr.sureAddr]at h
 |some a=>simpa[Instr.loadAt,Instr.sureAddr,asAddr]using h
def Om(tmps:Array Value):ResultVar→Sem Value
 |.tmp t=>pure (tmps.getD t undef)
 |.cell p t=>do loadVar t (←asAddr (tmps.getD p undef))
theorem iY(k:Ok (l+1) H m S w)(b:CS (l+1) s H m S a w):∀(rs:List ResultVar) (K:List AV→Prop),EQ P ⟨s,H⟩ rs K→
  ∃(vs:List Value) (xs:List AV),(rs.mapM (Om a.tmps)).run P w=.ok vs w∧xs.length=vs.length∧
   (∀(i:Nat) (x:AV) (v:Value),xs[i]?=some x→vs[i]?=some v→RepA w S H m (l+1) x v)∧K xs
 |[],K,h=>⟨[],[],by simp,rfl,fun i x v h=>by simp at h,h⟩
 |.tmp t::rest,K,h=>by
  obtain⟨vs,xs,f,g,n,j⟩:=iY k b rest _ h
  refine⟨a.tmps.getD t undef::vs,s t::xs,by simp only[Rm,Om,Sem.run_bind,Sem.run_pure,Result.andThen_ok,f],by simp[g],fun i x v d c=>?_,j⟩
  cases i with
  |zero=>simp at d c;subst d;subst c;simpa using b t
  |succ i=>exact n i x v (by simpa using d) (by simpa using c)
 |.cell p t::rest,K,h=>by
  obtain⟨v0,r,o,u,q⟩:=ZiD h (b p) k
  obtain⟨vs,xs,f,g,n,j⟩:=iY k b rest _ q
  refine⟨v0::vs,r::xs,?_,by simp[g],fun i x v d c=>?_,j⟩
  ·have:=Zro o
   have e:(Om a.tmps (.cell p t)).run P w=.ok v0 w:=this
   simp only[Rm,Sem.run_bind,e,Sem.run_pure,Result.andThen_ok,f]
  grind
def Nl(l:Nat)(H:Hp)(m:Mu)(S:Nat→Prop):Nat→Prop:=fun b=>S b∨∃k:Ad,k.1=l+1∧(H k).live=true∧((m k).cap≠0∨(H k).e.isO=true)∧b=(m k).b
theorem Ok.fin(h:Ok (l+1) H m S w):Ok l H m (Nl l H m S) w∧Ext l H m S w H m (Nl l H m S) w:=by
 have n:Ext (l+1) H m S w H m (Nl l H m S) w:=⟨fun _ h=>.inl h,fun _ _=>rfl,fun _ _=>Yh _,fun _ _ _ h=>⟨h,rfl,rfl⟩,rfl,rfl,rfl,Yh _⟩
 refine⟨⟨fun b c=>?_,fun q u=>h.empty q (by omega),fun q u hl g=>?_,fun q A u z=>h.inj q A (by omega) (by omega),fun q u hl g=>?_,
  ⟨fun k p j=>(h.mp.o k (by omega) j).mono (fun _ h=>.inl h) (fun _ _=>rfl) (fun _=>rfl),fun k p j he=>?_,fun k k' p s=>h.mp.i k k' (by omega) (by omega)⟩⟩,n.mono (by omega)⟩
 ·rcases c with c|⟨k,p,hl,g,rfl⟩
  ·exact h.sub b c
  ·rcases g with g|g
   ·obtain⟨C,c,_⟩:=h.blk k (by omega) hl g
    grind
   ·obtain⟨o,c,_⟩:=(h.mp.o k (by omega) hl).at g
    grind
 ·rintro(hs|⟨k,p,f,a,e⟩)
  ·exact h.fresh q (by omega) hl g hs
  ·rcases a with a|a
   ·have:=h.inj q k (by omega) (by omega) hl f g a e
    grind
   ·obtain⟨o,c,r⟩:=(h.mp.o k (by omega) f).at a
    obtain⟨C,d,_⟩:=h.blk q (by omega) hl g
    rw[e,c]at d;cases d;cases r
 ·obtain⟨C,c,hs,t,y⟩:=h.blk q (by omega) hl g
  exact⟨C,c,hs,t,fun i x v hi j=>⟨(y i x v hi j).1,(y i x v hi j).2.ext n (by omega)⟩⟩
 ·refine⟨(h.mp.c k (by omega) j he).1,?_⟩
  rintro(hs|⟨k',s,f,a,e⟩)
  ·exact(h.mp.c k (by omega) j he).2 hs
  ·rcases a with a|a
   ·obtain⟨o,c,r⟩:=(h.mp.o k (by omega) j).at he
    obtain⟨C,d,_⟩:=h.blk k' (by omega) f a
    rw[←e,c]at d;cases d;cases r
   ·have:=h.mp.i k k' (by omega) (by omega) j f he a e
    grind
theorem Fz.sound{x y:AV}(h:Fz H l x y)(R:Ok (l+1) H m S w):∀{v:Value},RepA w S H m (l+1) x v→RepA w (Nl l H m S) H m l y v:=by
 have u:Ext (l+1) H m S w H m (Nl l H m S) w:=⟨fun _ h=>.inl h,fun _ _=>rfl,fun _ _=>Yh _,fun _ _ _ h=>⟨h,rfl,rfl⟩,rfl,rfl,rfl,Yh _⟩
 induction h with
 |keep x h=>exact fun b=>(b.ext u (Yh _)).low h
 |e0=>
  intro v b
  cases b with
  |e0 O=>exact(RepA.e0 O).e0_d
 |mp k a es J hl he=>
  intro v b
  generalize G:(H k).g=g at b
  cases b with
  |mpD _ _ _ q I t p=>rw[t G.symm]at hl;cases hl
  |mpL _ q r=>
   have V:=R.mp.o k (by omega) hl
   rw[he]at V
   obtain⟨ents,B,p,P⟩:=V
   exact .d _ _ (.ofM (.inr ⟨k,J,hl,.inr (by rw[he];rfl),rfl⟩) p (P.mono (fun _ h=>.inl h) (fun _ _=>rfl)))
 |ref k off n es J hl K hz he o h z=>
  intro v b
  generalize G:(H k).g=g at b
  cases b with
  |refD _ _ _ _ _ q I t p=>rw[t G.symm]at hl;cases hl
  |refL _ _ _ O q r U T=>
   by_cases L:n=0
   ·subst L
    have:es=[]:=IJ K
    subst this
    cases O with
    |none=>
     have e:(m k).cap-off=0:=by
      rcases YK off (m k).cap with h|h
      ·have:=T h;cases this
      ·omega
     rw[e]
     exact .d _ _ .nil
    |some ad=>exact .d _ _ (.list [] ad 0 _ (fun _ _=>.bool true) (fun h=>absurd rfl h) (DE _) (fun _ h=>by cases h) (fun i j e x h=>by simp at h) (fun i j e x h=>by simp at h))
   ·have M:=T (by omega)
    subst M
    obtain⟨F,C,p,P,h3,Q⟩:=R.row (k:=k) (by omega) hl (by
     intro e
     rw[e,Y3]at o
     have:=RE (show 0<n by omega) (show 0<(H k).sz by omega)
     simp at o
     omega)
    have s:∀(i j:Nat) (e:List D) (d:D),es[i]?=some e→e[j]?=some d→(off+i)*(H k).sz+j<(H k).cells.length:=by
     intro i j e d hi f
     have X:i<n:=by
      rw[←K]
      rcases YK i es.length with h|h
      ·exact h
      ·rw[YR h]at hi;cases hi
     have Y:j<(H k).sz:=by
      rw[←he e (Yj hi)]
      rcases YK j e.length with h|h
      ·exact h
      ·rw[YR h]at f;cases f
     have:(off+i+1)*(H k).sz≤(off+n)*(H k).sz:=Y1 _ (by omega)
     rw[Y3 (off+i)]at this
     omega
    have:=RepD.list (w:=w) (S:=Nl l H m S) es ⟨(m k).b,(m k).o+off*(H k).sz,none⟩ (H k).sz ((m k).cap-off) (fun i j=>(C[(m k).o+((off+i)*(H k).sz+j)]?).getD undef)
     (fun _=>.inr ⟨k,J,hl,.inl F,rfl⟩) (by omega) he
     (fun i j e d hi f=>by
      obtain⟨v,A,_,_⟩:=Q _ _ (Ye (s i j e d hi f))
      rw[Addr.add_lit,GU p,A]
      rw[show(m k).o+off*(H k).sz+(i*(H k).sz+j)=(m k).o+((off+i)*(H k).sz+j)from by rw[Y3];omega,A]
      rfl)
     (fun i j e d hi f=>by
      obtain⟨v,A,Z,W⟩:=Q _ _ (Ye (s i j e d hi f))
      rw[A]
      have:=z i j e d _ hi f (Ye (s i j e d hi f)) W
      cases this with
      |d _ _ t=>exact t)
    rw[K]at this
    exact .d _ _ this
 |agg xs ys hl h z=>
  intro v b
  cases b with
  |agg _ vs r p E=>
   refine .agg _ _ (by omega) p (fun i y v hy N=>?_)
   have c:i<xs.length:=by
    rw[hl]
    rcases YK i ys.length with h|h
    ·exact h
    ·rw[YR h]at hy;cases hy
   exact z i _ y (Ye c) hy (E i _ v (Ye c) N)
 |tup xs ys hl h z=>
  intro v b
  cases b with
  |tup _ vs r E=>
   refine .tup _ _ (by omega) (fun i y v hy N=>?_)
   have c:i<xs.length:=by
    rw[hl]
    rcases YK i ys.length with h|h
    ·exact h
    ·rw[YR h]at hy;cases hy
   exact z i _ y (Ye c) hy (E i _ v (Ye c) N)
theorem Zkx{fn:Func}{KK:List AV→Prop}(j:Ok (l+1) H m S w)(k:CS (l+1) s H m S a w)(h:EQ P ⟨s,H⟩ fn.results.toList KK):
  ∃v xs,(results fn a.tmps).run P w=.ok v w∧RepA w S H m (l+1) (DK xs) v∧KK xs:=by
 obtain⟨vs,xs,d,c,b,g⟩:=iY j k _ _ h
 have o:∀f:ResultVar→Sem Value,(∀r,f r=Om a.tmps r)→(fn.results.mapM f).run P w=.ok vs.toArray w:=by
  intro f n
  have:f=Om a.tmps:=funext n
  subst this
  rw[sw]
  simp[d]
 refine⟨if h:vs.toArray.size=1 then vs.toArray[0]else .tuple vs.toArray,xs,?_,?_,g⟩
 ·unfold results
  simp only[Sem.run_bind]
  rw[o _ (fun r=>by cases r<;>rfl)]
  simp
 ·match xs,vs,c,b with
  |[x],[v],_,b=>exact b 0 x v rfl rfl
  |[],[],_,_=>exact .tup _ _ rfl (fun i x v h=>by simp[DK]at h)
  |x::x'::xs,v::t::vs,c,b=>
   have e:¬((v::t::vs).toArray.size=1):=by simp
   rw[dif_neg e]
   exact .tup _ _ (by simpa using c) (fun i x v q p=>b i x v q (by simpa using p))
theorem ZA5{P:Program}{f:FuncId}{fn:Func}{c:Code}{n l:Nat}{xs:List AV}{H:Hp}{s:AV→Hp→Prop}(hf:P.funcs[f]?=some fn)(hb:fn.body=some c)(G:(fn.name== "runtime.NumGoroutine")=false)
  (hn:fn.ntmps=n) (hx:xs.length≤n) (h:∀B:Base,BR P l n B c (ZYC P fn l H s) ⟨args xs,Dn l H⟩):ZcW P f l xs H s:=by
 refine⟨⟨fn,c,hf,hb,G⟩,fun m S w vs K j=>?_⟩
 have a:∀k:Ad,k.1≤l→Dn l H k=H k:=fun k g=>by unfold Dn;rw[Yg g]
 have hdead:∀k:Ad,¬k.1≤l→(Dn l H k).live=false:=fun k g=>by unfold Dn;rw[Yf g]
 have u:∀k:Ad,(Dn l H k).live=true→k.1≤l:=fun k hl=>by
  grind
 have X:Ok (l+1) (Dn l H) m S w:=by
  refine⟨K.sub,fun q d hl o=>?_,fun q d hl o=>?_,fun q M d I hl t o J heq=>?_,fun q d hl o=>?_,
   K.mp.stepL (fun q _ hl _=>by have:=u q hl;rw[a q this]at hl⊢;exact⟨this,hl,rfl,rfl⟩) (fun _ h=>h) (fun _ h=>.inl h) (fun _ _=>rfl) (fun _ _ h _=>h)⟩
  ·have:=u q hl;rw[a q this]at hl⊢;exact K.empty q this hl o
  ·have:=u q hl;rw[a q this]at hl;exact K.fresh q this hl o
  ·have e:=u q hl
   have e':=u M t
   rw[a q e]at hl;rw[a M e']at t
   exact K.inj q M e e' hl t o J heq
  ·have e:=u q hl
   rw[a q e]at hl⊢
   obtain⟨C,U,V,W,T⟩:=K.blk q e hl o
   exact⟨C,U,V,W,fun i x v hi O=>⟨(T i x v hi O).1,(T i x v hi O).2.agree (fun k g=>a k (by omega)) (fun _ _=>rfl)⟩⟩
 have hE:Ext l H m S w (Dn l H) m S w:=⟨fun _ h=>h,fun _ _=>rfl,fun k g=>by rw[a k g];exact Yh _,fun k g _ hl=>by rw[a k g]at hl⊢;exact⟨hl,rfl,rfl⟩,rfl,rfl,rfl,Yh _⟩
 have hR:R l n ⟨H,m,S,w⟩ ⟨args xs,Dn l H⟩ {tmps:=vs++Array.replicate (fn.ntmps-vs.size) undef,defers:=[] } w:=by
  refine⟨m,S,X,by simp[hn];rw[←j.1];omega,rfl,fun i=>?_,hE⟩
  simp only[args]
  cases hi:xs[i]? with
  |none=>exact .top _
  |some x=>
   have hlt:i<xs.length:=by
    grind
   have D:i<vs.size:=by rw[←j.1];exact hlt
   rw[YC,NU D,Yv D]
   exact((j.2 i x _ hi (Yv D)).agree (fun k g=>a k g) (fun _ _=>rfl)).lvl (Nat.le_succ l)
 refine calls_of_wp hf hb (wp_mono (h ⟨H,m,S,w⟩ _ w hR) fun e a' w' ⟨σ',d,Y⟩=>?_)
 obtain⟨s',H'⟩:=σ'
 obtain⟨m',S',A,hn',hd',Z,N⟩:=Y.un
 have done:EQ P ⟨s',H'⟩ fn.results.toList (fun xs=>∃y,Fz H' l (DK xs) y∧s y (Iq l H' H))→a'.defers=[]∧∃v,(results fn a'.tmps).run P w'=.ok v w'∧
   (∃r Q p E z,Ending.returned v=.returned Q∧s r p∧Ok l p E z w'∧RepA w' z p E l r Q∧Ext l H m S w p E z w'):=by
  intro hr
  obtain⟨v,xs,U,V,y,W,T⟩:=Zkx A Z hr
  obtain⟨L,k2⟩:=A.fin
  have b:∀k:Ad,k.1≤l→Iq l H' H k=H' k:=fun k g=>by unfold Iq;rw[Yg g]
  refine⟨hd',v,U,y,v,Iq l H' H,m',_,rfl,T,?_,(W.sound A V).agree b (fun _ _=>rfl),?_⟩
  ·refine⟨L.sub,fun q d hl o=>?_,fun q d hl o=>?_,fun q M d I hl t o J heq=>?_,fun q d hl o=>?_,
    L.mp.step (Yh _) (fun q d hl _=>by rw[b q d]at hl⊢;exact⟨hl,rfl,rfl⟩) (fun _ h=>h) (fun _ h=>.inl h) (fun _ _=>rfl) (fun _ _ h _=>h)⟩
   ·rw[b q d]at hl⊢;exact L.empty q d hl o
   ·rw[b q d]at hl;exact L.fresh q d hl o
   ·rw[b q d]at hl;rw[b M I]at t;exact L.inj q M d I hl t o J heq
   ·rw[b q d]at hl⊢
    obtain⟨C,g1,g2,g3,g4⟩:=L.blk q d hl o
    exact⟨C,g1,g2,g3,fun i x v hi O=>⟨(g4 i x v hi O).1,(g4 i x v hi O).2.agree (fun k g=>b k (by omega)) (fun _ _=>rfl)⟩⟩
  ·have F:=Ext.trans (show Ext l H m S w H' m' S' w' from N) k2
   exact⟨F.s,F.blk,fun k g=>by rw[b k g];exact F.g k g,fun k g hg hl=>by rw[b k g]at hg hl⊢;exact F.live k g hg hl,F.os,F.tape,F.output,F.size⟩
 rcases d.1 with rfl|rfl
 ·exact done d.2
 ·exact done d.2
end
end Go.Eng
namespace Go.Eng
set_option linter.all false
open Go Go.RowKit
section
variable {P:Program} {l n:Nat} {ds:List (Option Nat)} {ops rest:List Oper} {K:St→Prop} {s:Nat→AV} {H:Hp} {d:Option Nat} {op:Op} {ty:TypeId} {ps:String} {af:Array Edge} {g:Option (Nat×Bool)}
variable {x y:Operand} {t:TypeId}
theorem pn{l:Nat}{H:Hp}{k:Ad}(h:k.1≤l):Dn l H k=H k:=by unfold Dn;rw[Yg h]
theorem ZMr{l:Nat}{H:Hp}{i:Nat}:Dn l H (l+1,i)=⟨0,false,0,0,[]⟩:=by unfold Dn;rw[Yf (by simp)]
end
def B0(o:Oper):Bool:=o.dst.isSome&&match o.op with
 |.call c=>match c.callee with
  |.value _=>true
  |.builtin .len|.builtin .min|.builtin .max=>true
  |_=>false
 |.binOp _ _ _ y _=>!Jn y
 |.alloc _|.box _ _|.store _ _ _|.buildSlice _ _ _|.makeSlice _ _ _|.makeMap _ _|.range _ _|.next _ _|.entry _=>false
 |_=>true
def fU(o:Oper):Bool:=match o.op with
 |.buildSlice _ (_+1) _=>true
 |_=>false
def C2(o:Oper):Bool:=B0 o||(o.dst.isSome&&fU o)
def ZYJ(P:Program)(t:TypeId)(len:Nat)(ps:List (Nat×AV))(v:AV):Prop:=
 ∃e sz z es,elm P t=some (e,sz)∧sz≠0∧(len+1)*sz≤16777216∧zer P e=some z∧z.length=sz∧F8 sz 0 ps=some es∧es.length=len+1∧v=.d (.list es)
def qV(P:Program)(l:Nat)(H:Hp)(o:Oper)(ρ:Operand→AV)(v:AV):Prop:=
 match o.op with
 |.buildSlice t (len+1) parts=>ZYJ P t len (parts.toList.map fun p=>(p.1,ρ p.2)) v
 |.call c=>match c.callee with
  |.value f=>match ρ f with
   |.fn (.func g) first a=>ZcW P g (l+1) (first++c.args.toList.map ρ++a) H (fun y b=>y=v∧b=H)
   |_=>False
  |_=>Bb P H o.op ρ (fun y=>y=v)
 |_=>Bb P H o.op ρ (fun y=>y=v)
def F7(P:Program)(l n:Nat)(o:Oper)(K:St→Prop)(σ:St):Prop:=
 match o.op with
 |.buildSlice t (len+1) parts=>∃v,ZYJ P t len (parts.toList.map fun p=>(p.1,ev σ.s p.2)) v∧CD n o.dst K σ v
 |.call c=>match c.callee with
  |.value f=>match ev σ.s f with
   |.fn (.func g) first a=>∃r,ZcW P g (l+1) (first++c.args.toList.map (ev σ.s)++a) σ.H (fun y b=>y=r∧b=σ.H)∧CD n o.dst K σ r
   |_=>False
  |_=>BJ P l n o K σ
 |_=>BJ P l n o K σ
def D9(P:Program)(l n:Nat)(ds:List (Option Nat)):List Oper→(St→Prop)→St→Prop
 |[],K,σ=>K σ
 |o::rest,K,σ=>match o.guard with
  |none=>F7 P l n o (D9 P l n ds rest K) σ
  |some (i,b)=>match Io σ.s ds i b with
   |some t=>(t=true→F7 P l n o (D9 P l n ds rest K) σ)∧(t=false→match o.dst with|some d=>d<n∧D9 P l n ds rest K ⟨upd σ.s d (.tup []),σ.H⟩|none=>False)
   |none=>False
section
variable {P:Program} {l n:Nat} {B:Base} {H:Hp} {K K':AV→Prop} {t:TypeId} {x y:AV} {ρ ρ':Operand→AV}
theorem ZlT{op:BinOp}{k:IntKind}{a b:Int}(h:∀v,K v→K' v)(c:Gz op k a b K):Gz op k a b K':=by
 cases op<;>simp only[Gz]at c⊢<;>first|exact h _ c|exact⟨c.1,h _ c.2⟩|exact c
theorem Zli{op:BinOp}{a b:ByteArray}(h:∀v,K v→K' v)(c:Gy op a b K):Gy op a b K':=by
 cases op<;>simp only[Gy]at c⊢<;>first|exact h _ c|exact⟨c.1,h _ c.2⟩|exact c
theorem ZBe{op:BinOp}{k:IntKind}{a b:Int}(c:Gz op k a b K):∃v,Gz op k a b (fun y=>y=v)∧K v:=by
 cases op<;>simp only[Gz]at c⊢<;>first|exact⟨_,rfl,c⟩|exact⟨_,⟨c.1,rfl⟩,c.2⟩|exact c.elim
theorem Zzv{op:BinOp}{a b:ByteArray}(c:Gy op a b K):∃v,Gy op a b (fun y=>y=v)∧K v:=by
 cases op<;>simp only[Gy]at c⊢<;>first|exact⟨_,rfl,c⟩|exact⟨_,⟨c.1,rfl⟩,c.2⟩|exact c.elim
theorem ZtX(h:EN P H t x K):∃v,EN P H t x (fun y=>y=v)∧K v:=by
 unfold EN at h⊢
 split at h
 ·grind
 ·grind
 grind
theorem Zi4{i:Nat}(h:Fb P H t i x K):∃v,Fb P H t i x (fun y=>y=v)∧K v:=by
 unfold Fb at h⊢
 grind
theorem Zqm{i:Nat}(h:Fe P t i x K):∃v,Fe P t i x (fun y=>y=v)∧K v:=by
 unfold Fe at h⊢
 split at h
 ·split at h
  ·grind
  grind
 grind
theorem Zi9(h:EE P H t x y K):∃v,EE P H t x y (fun y=>y=v)∧K v:=by
 unfold EE at h⊢
 grind
theorem Zqx(h:FJ P t x y K):∃v,FJ P t x y (fun y=>y=v)∧K v:=by
 unfold FJ at h⊢
 grind
theorem ZA6{op:BinOp}{xs ys:List AV}(h:G6 P op t xs ys K):∃v,G6 P op t xs ys (fun y=>y=v)∧K v:=by
 unfold G6 at h⊢
 split at h
 ·grind
 grind
theorem ZAD{op:BinOp}(h:CK P H op t false x y K):∃v,CK P H op t false x y (fun y=>y=v)∧K v:=by
 unfold CK at h⊢
 split at h
 ·obtain⟨v,a,b⟩:=ZBe h.2;exact⟨v,⟨h.1,a⟩,b⟩
 ·exact Zzv h
 ·grind
 ·exact ZA6 h
 ·cases h.1
 grind
theorem ZHE{op:UnOp}(h:EX op x K):∃v,EX op x (fun y=>y=v)∧K v:=by
 unfold EX at h⊢
 grind
theorem Zwo{u:TypeId}(h:Ff P t u x K):∃v,Ff P t u x (fun y=>y=v)∧K v:=by
 unfold Ff at h⊢
 grind
theorem Zrv{lo hi:Option AV}{a:Bool}(h:EH P H t x lo hi a K):∃v,EH P H t x lo hi a (fun y=>y=v)∧K v:=by
 unfold EH at h⊢
 grind
theorem ZBi(h:D3 P H t x K):∃v,D3 P H t x (fun y=>y=v)∧K v:=by
 unfold D3 at h⊢
 grind
theorem Zq3{ps:List (Nat×AV)}(h:FL P t ps K):∃v,FL P t ps (fun y=>y=v)∧K v:=by
 unfold FL at h⊢
 grind
theorem ZMd{op:Op}(g:∀o t x y u,op=.binOp o t x y u→Jn y=false)(h:Bb P H op ρ K):∃v,Bb P H op ρ (fun y=>y=v)∧K v:=by
 cases op<;>simp only[Bb]at h⊢<;>try exact h.elim
 case move x=>exact⟨_,rfl,h⟩
 case assign x=>exact⟨_,rfl,h⟩
 case pick c a b=>
  split at h
  ·grind
  ·grind
 case load=>exact ZtX h
 case fieldAddr=>exact Zi4 h
 case field=>exact Zqm h
 case indexAddr=>exact Zi9 h
 case index=>exact Zqx h
 case extract=>
  split at h
  ·grind
  ·grind
 case binOp o t x y u=>
  rw[g _ _ _ _ _ rfl]at h⊢
  exact ZAD h
 case unOp=>exact ZHE h
 case convert=>exact Zwo h
 case nilCheck=>
  unfold IW at h⊢
  split at h
  ·grind
  ·grind
  ·grind
 case makeFunc=>exact⟨_,rfl,h⟩
 case makeInterface=>
  obtain⟨d,h⟩:=h
  repeat' split at h
  all_goals first|exact h.elim|exact⟨_,⟨d,rfl⟩,h⟩
 case typeAssert=>
  obtain⟨d,h⟩:=h
  repeat' split at h
  all_goals first|exact h.elim|exact⟨_,⟨d,h.1,rfl⟩,h.2⟩
 case slice=>exact Zrv h
 case build=>exact Zq3 h
 case lookup=>exact Zs2 h
 case call c=>
  split at h
  ·obtain⟨v,e,f⟩:=ZBi h.2;exact⟨v,⟨h.1,e⟩,f⟩
  ·split at h
   ·unfold EA at h⊢
    grind
   ·unfold G8 at h⊢
    grind
   grind
  ·grind
theorem ZoP{op:Op}(e:∀o t x y u,op=.binOp o t x y u→Jn y=false){v:AV}(d:K v)(h:Bb P H op ρ (fun y=>y=v)):Bb P H op ρ K:=by
 have:(fun y=>y=v)=(fun y=>y=v∧K v):=by funext y;simp[d]
 rw[this]at h
 clear this d
 cases op<;>simp only[Bb]at h⊢<;>try exact h.elim
 case move x=>exact h.1▸h.2
 case assign x=>exact h.1▸h.2
 case pick c a b=>
  split at h
  ·grind
  ·grind
 case load t x=>
  unfold EN at h⊢
  split at h
  ·grind
  ·grind
  ·grind
 case fieldAddr=>
  unfold Fb at h⊢
  split at h
  ·grind
  ·grind
  ·grind
 case field=>
  unfold Fe at h⊢
  split at h
  ·split at h
   ·grind
   grind
  ·grind
 case indexAddr=>
  unfold EE at h⊢
  split at h
  ·grind
  ·grind
  ·grind
 case index=>
  unfold FJ at h⊢
  split at h
  ·grind
  ·grind
 case makeInterface=>
  refine⟨h.1,?_⟩
  replace h:=h.2
  repeat' split at h
  all_goals first|exact h.elim|exact h.1▸h.2
 case typeAssert=>
  refine⟨h.1,?_⟩
  replace h:=h.2
  repeat' split at h
  all_goals first|exact h.elim|exact⟨h.1,h.2.1▸h.2.2⟩
 case extract=>
  split at h
  ·grind
  ·grind
 case binOp o t x y u=>
  rw[e _ _ _ _ _ rfl]at h⊢
  unfold CK at h⊢
  split at h
  ·exact⟨h.1,ZlT (fun y (hy:y=v∧K v)=>hy.1▸hy.2) h.2⟩
  ·exact Zli (fun y (hy:y=v∧K v)=>hy.1▸hy.2) h
  ·grind
  ·unfold G6 at h⊢
   split at h
   ·split at h
    ·grind
    grind
   grind
  ·cases h.1
  ·grind
 case unOp=>
  unfold EX at h⊢
  split at h<;>grind
 case nilCheck=>
  unfold IW at h⊢
  split at h
  ·grind
  ·grind
  ·grind
 case convert=>
  unfold Ff at h⊢
  split at h
  ·grind
  ·grind
  ·grind
 case makeFunc=>exact h.1▸h.2
 case slice=>
  unfold EH at h⊢
  split at h
  ·grind
  ·grind
  ·grind
  ·grind
 case build=>
  unfold FL at h⊢
  split at h
  ·grind
  ·grind
 case lookup=>exact Zms (fun y (hy:y=v∧K v)=>hy.1▸hy.2) h
 case call c=>
  split at h
  ·refine⟨h.1,?_⟩
   replace h:=h.2
   unfold D3 at h⊢
   grind
  ·split at h
   ·unfold EA at h⊢
    grind
   ·unfold G8 at h⊢
    grind
   grind
  ·grind
theorem jI{o:Oper}(h:C2 o=true)(a:∀t len ps,o.op=.buildSlice t (len+1) ps→False):B0 o=true:=by
 unfold C2 at h
 rw[Yz]at h
 rcases h with h|h
 ·exact h
 ·exfalso
  unfold fU at h
  split at h
  ·rename_i e;exact a _ _ _ e
  ·simp at h
theorem jr{o:Oper}(a:C2 o=true):∀b t x y u,o.op=.binOp b t x y u→Jn y=false:=by
 intro b t x y u h
 simp only[C2,fU,B0,h,Hr,Lw,Yc,YL]at a
 exact a.2
theorem ZnT{o:Oper}{v:AV}(h:∀x∈o.op.operands,ρ x=ρ' x)(a:qV P l H o ρ v):qV P l H o ρ' v:=by
 obtain⟨q,op,type,pos,after,guard⟩:=o
 have d:∀i:Array Operand,(∀x∈i,ρ x=ρ' x)→i.toList.map ρ=i.toList.map ρ':=fun i k=>FD fun x e=>k x (by simpa using e)
 cases op<;>simp only[Op.operands]at h<;>simp only[qV,Bb]at a⊢<;>try exact a
 case call c=>
  have k:c.args.toList.map ρ=c.args.toList.map ρ':=d _ fun x e=>h x (by simp[Call.operands,e])
  cases j:c.callee with
  |value f=>
   have z:ρ f=ρ' f:=h f (by simp[Call.operands,j])
   grind
  |invoke r m=>simp only[j]at a
  |builtin b=>
   simp only[j]at a⊢
   split at a
   ·rename_i x t y s w
    rw[←h x (by simp[Call.operands,j,sG s])]
    exact a
   ·grind
   grind
 case build t ps=>
  have:(ps.toList.map fun p=>(p.1,ρ p.2))=ps.toList.map fun p=>(p.1,ρ' p.2):=FD fun p u=>by
   grind
  rw[←this];exact a
 case buildSlice t n ps=>
  cases n with
  |zero=>exact a
  |succ n=>
   have:(ps.toList.map fun p=>(p.1,ρ p.2))=ps.toList.map fun p=>(p.1,ρ' p.2):=FD fun p u=>by
    grind
   simp only at a⊢
   rw[←this];exact a
 case makeFunc fn first g=>
  rw[←d first fun x e=>h x (by simp[e]),←d g fun x e=>h x (by simp[e])];exact a
 case slice t x lo hi A=>
  rw[←h x (by simp),show lo.map ρ'=lo.map ρ from by cases lo<;>simp_all,show hi.map ρ'=hi.map ρ from by cases hi<;>simp_all];exact a
 all_goals(first|(simp_all;done))
theorem Zog{o:Oper}{s:Nat→AV}{K:St→Prop}(a:C2 o=true)(h:F7 P l n o K ⟨s,H⟩):∃d v,o.dst=some d∧d<n∧qV P l H o (ev s) v∧K ⟨upd s d v,H⟩:=by
 have m:∃d,o.dst=some d:=by
  have:o.dst.isSome=true:=by
   unfold C2 B0 at a
   rw[Yz,Yc,Yc]at a
   rcases a with h|h
   ·exact h.1
   ·exact h.1
  exact Fy.1 this
 obtain⟨d,m⟩:=m
 have i:Bb P H o.op (ev s) (CD n o.dst K ⟨s,H⟩)→(∀v,Bb P H o.op (ev s) (fun y=>y=v)→qV P l H o (ev s) v)→∃d v,o.dst=some d∧d<n∧qV P l H o (ev s) v∧K ⟨upd s d v,H⟩:=fun h p=>by
  obtain⟨v,q,b⟩:=ZMd (jr a) h
  rw[m]at b
  exact⟨d,v,m,b.1,p v q,b.2⟩
 unfold F7 at h
 split at h
 ·rename_i z
  obtain⟨v,q,b⟩:=h
  rw[m]at b
  refine⟨d,v,m,b.1,?_,b.2⟩
  unfold qV
  rw[z]
  exact q
 ·rename_i c j
  replace a:B0 o=true:=jI a fun t n ps e=>by rw[j]at e;cases e
  split at h
  ·rename_i f w
   simp only[]at h
   split at h
   ·rename_i g first A B
    obtain⟨r,q,b⟩:=h
    rw[m]at b
    refine⟨d,r,m,b.1,?_,b.2⟩
    simp only[qV,j,w,B]
    exact q
   ·exact h.elim
  ·rename_i w
   refine i ?_ ?_
   ·unfold BJ at h
    simp only[j]at h
    simp only[B0,j,Yc]at a
    split at h
    ·rename_i f x;exact absurd x (w f)
    ·rename_i u;rw[u]at a;simp at a
    ·rw[j];exact h
   ·intro v p
    unfold qV
    rw[j]at p⊢
    cases k:c.callee with
    |value f=>exact absurd k (w f)
    |_=>simpa[k]using p
 ·rename_i u j
  replace a:B0 o=true:=jI a fun t n ps e=>u _ _ _ e
  refine i ?_ ?_
  ·unfold BJ at h
   split at h
   ·rename_i he;simp[B0,he]at a
   ·rename_i he;simp[B0,he]at a
   ·rename_i he;simp[B0,he]at a
   ·rename_i he;simp[B0,he]at a
   ·rename_i he;simp[B0,he]at a
   ·rename_i c he;exact absurd he (j c)
   ·exact h
  ·intro v p
   unfold qV
   split
   ·rename_i he;exact absurd he (u _ _ _)
   ·rename_i c he;exact absurd he (j c)
   ·exact p
theorem ZNZ{o:Oper}{s:Nat→AV}{v:AV}{d:Nat}(q:C2 o=true)(b:o.dst=some d)(a:d<n)(h:qV P l H o (ev s) v):B6 P l n B o (fun E=>E=⟨upd s d v,H⟩) ⟨s,H⟩:=by
 unfold qV at h
 split at h
 ·rename_i t len parts k
  obtain⟨e,sz,z,es,i,j,u,w,x,y,A,rfl⟩:=h
  exact Zho k b i j u w x y A a rfl
 ·rename_i c C
  split at h
  ·rename_i f p
   split at h
   ·rename_i g first m D
    refine ZpI C p D (h.mono fun r F ⟨i,j⟩=>?_)
    subst i;subst j
    rw[b]
    exact⟨a,rfl⟩
   grind
  ·rename_i p
   exact V1 (ZoP (jr q) (by rw[b];exact⟨a,rfl⟩) h)
 ·exact V1 (ZoP (jr q) (by rw[b];exact⟨a,rfl⟩) h)
end
section
variable {P:Program} {l n:Nat} {B:Base} {H:Hp} {ops:Array Oper} {md:Region.Mode} {Q:(Nat→AV)→Prop}
def YA(P:Program)(l:Nat)(H:Hp)(ops:Array Oper)(o:Oper)(s:Nat→AV)(v:AV):Prop:=
 match o.guard with
 |none=>qV P l H o (ev s) v
 |some (i,b)=>match Io s (ops.toList.map (·.dst)) i b with
  |some t=>(t=true→qV P l H o (ev s) v)∧(t=false→v=.tup [])
  |none=>False
theorem tf{o:Oper}{s:Nat→AV}{v u:AV}{d:Nat}(k:d∉o.looksAt ops)(h:YA P l H ops o (upd s d u) v):YA P l H ops o s v:=by
 have f:∀x∈o.op.operands,ev (upd s d u) x=ev s x:=fun x p=>by
  cases x with
  |tmp t=>
   have c:t≠d:=fun e=>k (by
    subst e
    exact JQ _ (List.mem_filterMap.2 ⟨.tmp t,by simpa using p,rfl⟩))
   simp[ev,upd,c]
  |_=>rfl
 unfold YA at*
 cases j:o.guard with
 |none=>simp only[j]at h⊢;exact ZnT f h
 |some m=>
  obtain⟨i,b⟩:=m
  simp only[j]at h⊢
  have g:Io (upd s d u) (ops.toList.map (·.dst)) i b=Io s (ops.toList.map (·.dst)) i b:=by
   unfold Io
   simp only[YV,Yx]
   cases n:ops[i]? with
   |none=>rfl
   |some q=>
    cases a:q.dst with
    |none=>simp[a]
    |some t=>
     have c:t≠d:=fun e=>k (by subst e;simp[Oper.looksAt,j,n,a])
     simp[a,upd,c]
  rw[g]at h
  split at h
  ·rename_i t r
   exact⟨fun e=>ZnT f (h.1 e),h.2⟩
  ·exact h
theorem ZLO{o:Oper}{s:Nat→AV}{v u:AV}{d:Nat}(a:d∉o.looksAt ops)(h:YA P l H ops o s v):YA P l H ops o (upd s d u) v:=by
 refine tf (d:=d) (u:=s d) a ?_
 have:upd (upd s d u) d (s d)=s:=by funext j;unfold upd;split<;>simp_all
 grind
theorem ZA7{s:Nat→AV}{d e:Nat}{u v:AV}(h:d≠e):upd (upd s d u) e v=upd (upd s e v) d u:=by
 funext j
 unfold upd
 grind
end
def L8(P:Program)(t:TypeId)(i:Nat):Option (Nat×Nat×Bool):=
 match P.underlying t with
 |some (.struct a)=>(a[i]?).bind fun f=>(DG P f.type).map fun b=>(f.offset,P.cellsOf f.type,b)
 |_=>none
def Oy(o:Option (Nat×Nat×Bool))(x:AV)(K:AV→Prop):Prop:=
 match o,x with
 |some (o,n,true),.agg cs=>n≠0∧K (.agg ((cs.drop o).take n))
 |some (o,_,false),.agg cs=>(match cs[o]? with|some c=>K c|none=>False)
 |_,_=>False
theorem Zwg{P:Program}{t:TypeId}{i:Nat}{x:AV}{K:AV→Prop}:Fe P t i x K=Oy (L8 P t i) x K:=by
 unfold Fe L8
 cases x with
 |agg cs=>
  cases j:P.underlying t with
  |none=>rfl
  |some d=>
   cases d with
   |struct a=>
    simp only
    cases g:a[i]? with
    |none=>rfl
    |some f=>
     simp only[Ya]
     cases c:DG P f.type with
     |none=>rfl
     |some b=>cases b<;>rfl
   |_=>rfl
 |_=>
  have e:∀(o:Option (Nat×Nat×Bool)) (y:AV),(∀cs,y≠.agg cs)→Oy o y K=False:=fun o y h=>by
   unfold Oy
   grind
  grind
structure fins (P:Program) (l:Nat) (H:Hp) (rs:List ResultVar) (Post:AV→Hp→Prop) (e:Exit) (σ:St):Prop where
 he:e=.normal∨e=.ret
 hy:EQ P σ rs (fun xs=>∃y,Fz σ.H l (DK xs) y∧Post y (Iq l σ.H H))
inductive Fit:D→Prop
 |int (k:IntKind) (n:Int):Fit (.int k n)
 |bool (b:Bool):Fit (.bool b)
 |str (s:ByteArray) (h:s.size<2147483648):Fit (.str s)
 |list (es:List (List D)) (hl:es.length<2147483648) (h:∀e∈es,∀x∈e,Fit x):Fit (.list es)
def Kc(l:List D):Prop:=∀d∈l,Fit d
theorem Fit.len{α:Type}{e:α→List D}{xs:List α}(h:Fit (.list (xs.map e))):xs.length<2147483648:=by
 cases h with|list _ hl h=>simpa using hl
theorem Fit.mem{α:Type}{e:α→List D}{xs:List α}(h:Fit (.list (xs.map e))){x:α}(a:x∈xs):Kc (e x):=by
 cases h with|list _ hl h=>exact h _ (N5 a)
theorem Fit.el{α:Type}{e:α→List D}{xs:List α}(h:Fit (.list (xs.map e))){i:Nat}{x:α}(a:xs[i]?=some x):Kc (e x):=h.mem (Yj a)
theorem Kc.at{l:List D}(h:Kc l)(i:Nat){d:D}(hi:l[i]?=some d):Fit d:=h d (Yj hi)
theorem Kc.sub{l:List D}(h:Kc l)(i n:Nat){m:List D}(hi:(l.drop i).take n=m):Kc m:=by
 subst hi
 exact fun d a=>h d (JO (JP a))
def nrm:AV→AV
 |.e0=>.d (.list [])
 |.agg xs=>.agg (xs.map fun x=>match x with|.e0=>.d (.list [])|x=>x)
 |x=>x
section
variable {P:Program} {l n:Nat} {B:Base} {H H':Hp} {K:St→Prop} {σ σ':St} {Q:Exit→St→Prop} {s:Nat→AV} {ds:List (Option Nat)} {d:Option Nat} {op:Op} {ty:TypeId} {ps:String} {af:Array Edge} {rest:List Oper}
 {g:Option (Nat×Bool)} {x y:Operand} {t:TypeId}
theorem jQ{a b:Code}(h:BR P l n B a (ZSI (BR P l n B b Q) Q) σ):BR P l n B (.seq a b) Q σ:=ZL7 fun _ c=>HZ h fun e σ' h=>by
 cases e<;>first|exact c σ' h|exact h
theorem ME{a:Int}{i:Nat}(h:a=(i:Int))(hi:i<9223372036854775808):IntKind.wrap .i64 a=(i:Int):=by
 subst h
 exact IntWalk.i64_in _ ⟨by omega,by omega⟩
theorem ZBS{f:FuncId}{fn:Func}(g:List ResultVar){c:Code}{xs:List AV}{a:AV→Hp→Prop}(j:P.funcs[f]?=some fn)(i:fn.body=some c)(b:(fn.name== "runtime.NumGoroutine")=false)
  (k:fn.ntmps=n) (m:fn.results.toList=g) (o:xs.length≤n) (h:∀B:Base,BR P l n B c (fins P l H g a) ⟨args xs,Dn l H⟩):ZcW P f l xs H a:=by
 refine ZA5 j i b k o fun B=>HZ (h B) fun e σ d=>?_
 unfold ZYC
 rw[m]
 exact⟨d.he,d.hy⟩
theorem Fz.data{xs:List D}:Fz H' l (.agg (xs.map .d)) (.agg (xs.map .d)):=
 .agg _ _ rfl fun i x y a hy=>by
  rw[a]at hy;cases hy
  rw[YV]at a
  cases hi:xs[i]? with
  |none=>rw[hi]at a;cases a
  |some d=>rw[hi]at a;cases a;exact .keep _ rfl
theorem Fz.pure{xs:List AV}{ds:List D}(h:CU xs=some ds):Fz H' l (.agg xs) (.agg (ds.map .d)):=
 .agg _ _ (by rw[YE];exact jm h) fun i x y a hy=>by
  rw[YV]at hy
  cases hi:ds[i]? with
  |none=>rw[hi]at hy;cases hy
  |some d=>
   rw[hi]at hy;cases hy
   have:=Zoi h a hi
   cases x<;>simp only[D1]at this<;>cases this
   ·exact .keep _ rfl
   ·exact .e0
theorem Fz.d'{x:AV}{y:D}(h:x=.d y):Fz H' l x (.d y):=by subst h;exact .keep _ rfl
theorem Fz.two{x y x' e:AV}(f:Fz H' l x x')(hy:Fz H' l y e):Fz H' l (DK [x,y]) (.tup [x',e]):=
 .tup _ _ rfl fun i a b c d=>by
  match i with
  |0=>cases c;cases d;exact f
  |1=>cases c;cases d;exact hy
  |i+2=>simp at c
theorem Fz.one{x x':AV}(a:Fz H' l x x'):Fz H' l (DK [x]) x':=a
theorem RepA.nrm{S:Nat→Prop}{m:Mu}{w:World}{x:AV}{v:Value}(h:RepA w S H m l x v):RepA w S H m l (nrm x) v:=by
 cases x with
 |e0=>exact h.e0_d
 |agg xs=>
  cases h with
  |agg _ vs c a h=>
   refine .agg _ _ (by simpa using c) a (fun i y v hy b=>?_)
   rw[YV]at hy
   cases hi:xs[i]? with
   |none=>rw[hi]at hy;cases hy
   |some x=>
    rw[hi]at hy
    simp only[Y7,Ym]at hy
    subst hy
    have:=h i x v hi b
    split
    ·exact this.e0_d
    grind
 |_=>exact h
theorem ZcW.nrm{f:FuncId}{xs:List AV}{a:AV→Hp→Prop}(h:ZcW P f l (xs.map nrm) H a):ZcW P f l xs H a:=
 ⟨h.1,fun m S w vs d c=>h.2 m S w vs d ⟨by simpa using c.1,fun i x v b e=>by
  rw[YV]at b
  cases hi:xs[i]? with
  |none=>rw[hi]at b;cases b
  |some y=>
   rw[hi]at b
   simp only[Y7,Ym]at b
   subst b
   exact(c.2 i y v hi e).nrm⟩⟩
end
def P3:List Operand→List Nat
 |[]=>[]
 |.tmp t::r=>t::P3 r
 |_::r=>P3 r
def L0:List (Option Nat)→Nat→Option Nat
 |[],_=>none
 |x::_,0=>x
 |_::r,i+1=>L0 r i
def FR(ds:List (Option Nat))(o:Oper):List Nat:=
 P3 o.op.operands.toList++match o.guard with
  |some (g,_)=>(match L0 ds g with|some d=>[d]|none=>[])
  |none=>[]
def FS:List (Nat×Nat)→Nat→Option Nat
 |[],_=>none
 |(d,k)::r,t=>match Nat.beq d t with|true=>some k|false=>FS r t
def Ce(o:Oper)(i:Nat):Bool:=o.after.toList.any fun e=>Region.binds .any e&&Nat.beq e.on i
def clear(o:Oper)(d:Nat):List (Nat×Nat)→Bool
 |[]=>true
 |(t,i)::r=>(match Nat.beq t d with|true=>Ce o i|false=>true)&&clear o d r
theorem ZoN{o:Oper}{d i:Nat}:∀{l:List (Nat×Nat)},clear o d l=true→(d,i)∈l→Ce o i=true
 |[],_,h=>by cases h
 |(t,j)::r,a,h=>by
  simp only[clear,Yc]at a
  rcases YI.1 h with h|h
  ·cases h
   have:=a.1
   rw[RD]at this
   exact this
  ·exact ZoN a.2 h
def Ns(ds:List (Option Nat)):Nat→List (Nat×Nat)→List (Nat×Nat)→List Oper→Bool
 |_,_,_,[]=>true
 |k,seen,a,o::r=>
  (o.after.toList.all fun e=>!Region.binds .any e||Nat.ble (e.on+1) k)&&
  ((FR ds o).all fun t=>match FS seen t with|some i=>Ce o i|none=>true)&&
  match o.dst with
  |some d=>(FS seen d).isNone&&clear o d a&&Ns ds (k+1) ((d,k)::seen) ((FR ds o).map (·,k)++a) r
  |none=>Ns ds (k+1) seen ((FR ds o).map (·,k)++a) r
def SU:List Oper→Bool
 |[]=>true
 |o::r=>(match o.op with|.select _ _=>false|_=>true)&&SU r
def SC(ops:List Oper):Bool:=SU ops&&Ns (ops.map (·.dst)) 0 [] [] ops
theorem Zyb(xs:List Operand):P3 xs=xs.filterMap fun|.tmp t=>some t|_=>none:=by
 induction xs with
 |nil=>rfl
 |cons x xs a=>cases x<;>simp[P3,a]
theorem ZtR:∀(ds:List (Option Nat)) (i:Nat),L0 ds i=(ds[i]?).join
 |[],i=>by simp[L0]
 |x::r,0=>by simp[L0]
 |x::r,i+1=>by simp[L0,ZtR r i]
theorem ZpE(ops:List Oper)(o:Oper):FR (ops.map (·.dst)) o=o.looksAt ops.toArray:=by
 unfold FR Oper.looksAt
 rw[Zyb]
 congr 1
 cases d:o.guard with
 |none=>rfl
 |some a=>
  obtain⟨g,b⟩:=a
  simp only
  rw[ZtR,YV]
  simp only[RC]
  cases ops[g]? with
  |none=>rfl
  |some c=>simp only[Y7,Option.join_some,Ya];cases c.dst<;>rfl
structure FInv (ds:List (Option Nat)) (pre:List Oper) (seen:List (Nat×Nat)) (looked:List (Nat×Nat)):Prop where
 s1:∀d i,FS seen d=some i→∃o,pre[i]?=some o∧o.dst=some d
 s2:∀(i:Nat) (o:Oper) (d:Nat),pre[i]?=some o→o.dst=some d→FS seen d=some i
 lo:∀(i:Nat) (o:Oper),pre[i]?=some o→∀t∈FR ds o,(t,i)∈looked
def Xr(ds:List (Option Nat))(x y:Oper):Prop:=(∀d,x.dst=some d→d∉FR ds y∧y.dst≠some d)∧(∀d,y.dst=some d→d∉FR ds x)
theorem ZiR(ds:List (Option Nat)):∀(rest pre:List Oper) (seen c:List (Nat×Nat)),FInv ds pre seen c→Ns ds pre.length seen c rest=true→
  ∀(j:Nat) (p:Oper),rest[j]?=some p→(∀e∈p.after,Region.binds .any e=true→e.on<pre.length+j)∧
   ∀(i:Nat) (n:Oper),i<pre.length+j→(pre++rest)[i]?=some n→Ce p i=true∨Xr ds n p
 |[],pre,seen,c,u,h,j,p,A=>by simp at A
 |o::r,pre,seen,c,u,h,j,p,A=>by
  simp only[Ns,Yc]at h
  obtain⟨⟨G,H⟩,s⟩:=h
  cases j with
  |zero=>
   simp only[FA,Ym]at A
   subst A
   refine⟨fun e he D=>?_,fun i n hi g=>?_⟩
   ·have:=Yw.1 G e (by simpa using he)
    simp only[D,YJ,GL]at this
    have:=Yi this
    omega
   ·rw[Ys (by omega)]at g
    by_cases z:Ce o i=true
    ·exact .inl z
    ·right
     refine⟨fun d v=>⟨fun hm=>?_,fun k=>?_⟩,fun d v hm=>?_⟩
     ·have:=Yw.1 H d hm
      rw[u.s2 i n d g v]at this
      exact z this
     ·rw[k]at s
      simp only[Yc]at s
      have:=s.1.1
      rw[u.s2 i n d g v]at this
      cases this
     ·rw[v]at s
      simp only[Yc]at s
      exact z (ZoN s.1.2 (u.lo i n g d hm))
  |succ j=>
   simp only[JK]at A
   have q:∀(f:List (Nat×Nat)),(∀d i,FS f d=some i→∃m,(pre++[o])[i]?=some m∧m.dst=some d)→(∀(i:Nat) (m:Oper) (d:Nat),(pre++[o])[i]?=some m→m.dst=some d→FS f d=some i)→
     FInv ds (pre++[o]) f ((FR ds o).map (·,pre.length)++c):=fun f a b=>⟨a,b,fun i m g t F=>by
    rcases Rs i pre.length with l|heq|B
    ·rw[Ys l]at g;exact List.mem_append_right _ (u.lo i m g t F)
    ·subst heq;simp at g;subst g;exact JQ _ (YX.2 ⟨t,F,rfl⟩)
    ·rw[YR (by simp;omega)]at g;cases g⟩
   have fin:∀f,FInv ds (pre++[o]) f ((FR ds o).map (·,pre.length)++c)→Ns ds (pre.length+1) f ((FR ds o).map (·,pre.length)++c) r=true→_:=fun f C J=>
    ZiR ds r (pre++[o]) f ((FR ds o).map (·,pre.length)++c) C (by simpa using J) j p A
   have conv:(∀e∈p.after,Region.binds .any e=true→e.on<(pre++[o]).length+j)∧(∀(i:Nat) (n:Oper),i<(pre++[o]).length+j→(pre++[o]++r)[i]?=some n→Ce p i=true∨Xr ds n p)→
     (∀e∈p.after,Region.binds .any e=true→e.on<pre.length+(j+1))∧(∀(i:Nat) (n:Oper),i<pre.length+(j+1)→(pre++o::r)[i]?=some n→Ce p i=true∨Xr ds n p):=by
    rintro⟨a,b⟩
    simp only[Yq,DB,FE,EC,IB,Hu]at a b
    exact⟨fun e he D=>by have:=a e he D;omega,fun i n hi g=>b i n (by omega) g⟩
   split at s
   ·rename_i d v
    simp only[Yc]at s
    obtain⟨⟨E,K⟩,I⟩:=s
    have y:FS seen d=none:=by cases w:FS seen d with|none=>rfl|some i=>rw[w]at E;cases E
    refine conv (fin _ (q ((d,pre.length)::seen) (fun d' i w=>?_) (fun i m d' g k=>?_)) I)
    ·simp only[FS]at w
     split at w
     ·rename_i he;cases w;rw[←Yd he];exact⟨o,by simp,v⟩
     ·obtain⟨m,a,b⟩:=u.s1 d' i w
      refine⟨m,?_,b⟩
      rw[Ys];exact a
      rcases YK i pre.length with l|x
      ·exact l
      ·rw[YR x]at a;cases a
    ·simp only[FS]
     rcases Rs i pre.length with l|heq|B
     ·rw[Ys l]at g
      have:=u.s2 i m d' g k
      split
      ·rename_i he
       rw[←Yd he,y]at this;cases this
      ·exact this
     ·subst heq;simp at g;subst g;rw[v]at k;cases k;simp
     ·rw[YR (by simp;omega)]at g;cases g
   ·rename_i v
    refine conv (fin _ (q seen (fun d' i w=>?_) (fun i m d' g k=>?_)) s)
    ·obtain⟨m,a,b⟩:=u.s1 d' i w
     refine⟨m,?_,b⟩
     rw[Ys];exact a
     rcases YK i pre.length with l|x
     ·exact l
     ·rw[YR x]at a;cases a
    ·rcases Rs i pre.length with l|heq|B
     ·rw[Ys l]at g;exact u.s2 i m d' g k
     ·subst heq;simp at g;subst g;rw[v]at k;cases k
     ·rw[YR (by simp;omega)]at g;cases g
theorem Zk3{ops:List Oper}{x y:Oper}(h:Xr (ops.map (·.dst)) x y):x.apart ops.toArray y=true:=by
 obtain⟨a,c⟩:=h
 rw[ZpE]at c
 have b:∀d,x.dst=some d→d∉y.looksAt ops.toArray∧y.dst≠some d:=fun d e=>by have:=a d e;rw[ZpE]at this;exact this
 unfold Oper.apart
 grind
theorem Zjw{ops:Array Oper}(m:∀(j:Nat) (c:Oper),ops[j]?=some c→∀e∈c.after,Region.binds .any e=true→e.on<j)
  (n:∀(i j:Nat) (o c:Oper),i<j→ops[i]?=some o→ops[j]?=some c→Ce c i=true∨o.apart ops c=true):
  ∀(fuel k:Nat) (a:Array Bool),fuel+k=ops.size→a.size=ops.size→(∀j,j<ops.size→a[j]?=some (decide (j<k)))→Region.lexFrom .any ops fuel k a=true
 |0,k,a,q,hs,hl=>by
  simp only[Region.lexFrom]
  rw[List.isEmpty_iff,Region.ready,RB]
  intro i hi
  have hi:=N0.1 hi
  have:=hl i hi
  simp[YC,this]
  omega
 |fuel+1,k,a,q,hs,hl=>by
  have g:k<ops.size:=by omega
  have b:ops[k]?=some ops[k]:=Yv g
  simp only[Region.lexFrom,Yc]
  refine⟨⟨?_,?_⟩,Zjw m n fuel (k+1) _ (by omega) (by simp[hs]) (fun j d=>?_)⟩
  ·rw[List.contains_iff_mem]
   unfold Region.ready
   refine DD.2 ⟨N0.2 g,?_⟩
   rw[Yc]
   refine⟨by simp[YC,hl k g],?_⟩
   rw[b]
   simp only[Y7,YH]
   rw[Array.all_eq_true_iff_forall_mem]
   intro e he
   by_cases p:Region.binds .any e=true
   ·have:=m k _ b e he p
    simp[YC,hl e.on (by omega),this]
   grind
  ·unfold Region.free
   rw[b]
   simp only[Yw,N0]
   intro j d
   rw[Yz,Yz]
   rcases Rs j k with l|heq|f
   ·left;right;simp[YC,hl j d,l]
   ·grind
   ·right
    rw[Yv d]
    simp only
    rw[Yz]
    rcases n k j _ _ f b (Yv d)with h|h
    ·left
     unfold Ce at h
     obtain⟨e,he,h⟩:=YM.1 h
     rw[←Array.any_toList]
     exact YM.2 ⟨e,he,by simpa using h⟩
    grind
  grind
theorem ZjP{ops:List Oper}(h:SC ops=true):Region.lexB .any ops.toArray=true:=by
 unfold SC at h
 rw[Yc]at h
 have g:∀(l:List Oper),SU l=true→l.all (fun o=>match o.op with|.select ..=>false|_=>true)=true:=fun l=>by
  induction l with
  |nil=>intro _;rfl
  |cons o l p=>
   intro m
   simp only[SU,Yc]at m
   grind
 have key:=ZiR (ops.map (·.dst)) ops [] [] [] ⟨fun d i k=>by simp[FS]at k,fun i o d e=>by simp at e,fun i o e=>by simp at e⟩ h.2
 simp only[FE,YN,Hu]at key
 unfold Region.lexB
 rw[Yc]
 refine⟨?_,Zjw (fun j f b=>(key j f (by simpa using b)).1) (fun i j n f c hi b=>?_) _ 0 _ rfl (by simp) (fun j b=>by simp at b⊢;simp[b])⟩
 ·unfold Region.noSelect
  grind
 ·rcases(key j f (by simpa using b)).2 i n c (by simpa using hi)with a|a
  ·grind
  ·exact .inr (Zk3 a)
structure TI where
 agg:Bool:=false
 kin:Nat:=0
 siz:Nat:=1
 elm:Option (Nat×Nat):=none
 fld:List (Nat×Nat×Bool):=[]
 zer:Option (List AV):=none
 eqt:Option (List Nat):=none
 str:Bool:=false
 ik:Option IntKind:=none
 byt:Option Nat:=none
 mp:Option (Bool×List D):=none
def AV.flat:AV→Bool
 |.d _|.e0|.p _|.iptr _ _=>true
 |_=>false
structure TIok (P:Program) (t:TypeId) (i:TI):Prop where
 agg:DG P t=some i.agg
 kin:kin P t=i.kin
 siz:P.cellsOf t=i.siz
 elm:∀e,i.elm=some e→Go.Eng.elm P t=some e
 fld:∀(j:Nat) (x:Nat×Nat×Bool),i.fld[j]?=some x→Go.Eng.fld P t j=some (x.1,x.2.1)∧L8 P t j=some x
 zer:∀z,i.zer=some z→Go.Eng.zer P t=some z
 eqt:∀z,i.eqt=some z→NA P t=some z
 str:i.str=true→LU P t=true
 ik:∀z,i.ik=some z→P.underlying t=some (.int z)
 byt:∀z,i.byt=some z→P.bytesOf t≤z∧P.bytesOf t≠0
 flt:∀z,i.zer=some z→z.all AV.flat=true
 mp:∀z,i.mp=some z→HQ P t=some z
def Bg(P:Program)(T:Nat→Option TI):Prop:=∀t i,T t=some i→TIok P t i
inductive AT where
 |nil
 |go (r:AT)
 |av (x:AV) (r:AT)
 |cs (c:List AV) (r:AT)
 |ds (e:List D) (r:AT)
 |num (n:Int) (r:AT)
 |nat (n:Nat) (r:AT)
 |call (x:AV) (ks:List Ad) (r:AT)
 |callH (x:AV) (ks:List Ad) (hb:List (Ad×List AV)) (r:AT)
 |br (a b:AT)
 |frz (d:Nat) (js:List (Nat×List (List D))) (cs:List (Ad×Nat×List (List D))) (r:AT)
 |adc (k:Ad) (i d:Nat) (e:TypeId) (sz:Nat) (r:AT)
 |mv (d j:Nat) (r:AT)
 |ads (j d:Nat) (e:TypeId) (sz:Nat) (r:AT)
 |trim (k:Ad) (c:List AV) (r:AT)
 |reb (j d m:Nat) (c:List AV) (r:AT)
 |sep (r:AT)
 |hard (x:AV) (ks:List Ad) (hb:List (Ad×Blk)) (fr:List Ad) (r:AT)
 |ents (es:List (List D)) (r:AT)
 |all (a:AT) (f:Nat→AT)
 |fzm (d:Nat) (js:List Nat) (r:AT)
 |fzb (d:Nat) (js:List Nat) (r:AT)
 |rnm (d d' e i:Nat) (r:AT)
 |mvc (d q e i:Nat) (r:AT)
 |one (v:Bool) (r:AT)
structure Ren where
 κ:Ad→Ad
 γ:Ad→Nat
 θ:Nat→AV
 H0:Hp
 no:Ad→Prop
mutual
def ren(r:Ren):AV→AV
 |.ref k g off n=>.ref (r.κ k) (r.γ k+g) off n
 |.ptr k g off=>.ptr (r.κ k) (r.γ k+g) off
 |.mp k g=>.mp (r.κ k) (r.γ k+g)
 |.fn f xs ys=>match f with
  |.yield i=>r.θ i
  |f=>.fn f (Aq r xs) (Aq r ys)
 |.agg xs=>.agg (Aq r xs)
 |.tup xs=>.tup (Aq r xs)
 |.top=>.top
 |.d x=>.d x
 |.e0=>.e0
 |.p x=>.p x
 |.iptr cs off=>.iptr cs off
 |.ifc t ds a=>.ifc t ds a
def Aq(r:Ren):List AV→List AV
 |[]=>[]
 |x::xs=>ren r x::Aq r xs
end
def AL(r:Ren)(k:Ad)(b:Blk):Blk:=⟨r.γ k+b.g,true,b.e,b.sz,Aq r b.cells⟩
theorem FH{r:Ren}(xs:List AV):Aq r xs=xs.map (ren r):=by
 induction xs with
 |nil=>simp[Aq]
 |cons x xs a=>simp[Aq,a]
theorem CE{r:Ren}(xs:List AV):(Aq r xs).length=xs.length:=by rw[FH,YE]
theorem GT{r:Ren}(xs ys:List AV):Aq r (xs++ys)=Aq r xs++Aq r ys:=by simp[FH]
theorem Fa{r:Ren}(xs:List AV)(n:Nat):(Aq r xs).drop n=Aq r (xs.drop n):=by simp[FH]
theorem FG{r:Ren}(xs:List AV)(n:Nat):(Aq r xs).take n=Aq r (xs.take n):=by simp[FH]
theorem H6{r:Ren}(xs:List AV)(n:Nat):(Aq r xs)[n]?=(xs[n]?).map (ren r):=by simp[FH]
theorem H7{r:Ren}(xs:List D):Aq r (xs.map .d)=xs.map .d:=by
 induction xs with
 |nil=>simp[Aq]
 |cons x xs a=>simp only[YZ,Aq,ren,a]
theorem ZzY{r:Ren}{xs:List AV}(h:xs≠[]):Aq r xs≠[]:=by cases xs<;>simp_all[Aq]
def DO(r:Ren)(H a:Hp):Prop:=∀k,(H k).live=true→a (r.κ k)=AL r k (H k)
def Bu{α:Type}:List α→Nat→Option α
 |[],_=>none
 |x::_,0=>some x
 |_::xs,i+1=>Bu xs i
theorem Cp{α:Type}:∀(xs:List α) (i:Nat),Bu xs i=xs[i]?
 |[],i=>by simp[Bu]
 |x::xs,0=>by simp[Bu]
 |x::xs,i+1=>by simp[Bu,Cp xs i]
def Jv{α:Type}:Nat→List α→Option (List α)
 |0,_=>some []
 |n+1,x::xs=>match Jv n xs with|some r=>some (x::r)|none=>none
 |_+1,[]=>none
theorem jO{α:Type}:∀(n:Nat) (xs r:List α),Jv n xs=some r→xs.take n=r∧n≤xs.length
 |0,xs,r,h=>by simp only[Jv,Ym]at h;subst h;simp
 |n+1,[],r,h=>by simp[Jv]at h
 |n+1,x::xs,r,h=>by
  simp only[Jv]at h
  split at h
  ·rename_i q a
   cases h
   obtain⟨b,c⟩:=jO n xs q a
   grind
  ·cases h
def BO(H:Hp)(k:Ad)(g:Nat):Bool:=Nat.beq g (H k).g&&(H k).live
theorem DW{H:Hp}{k:Ad}{g:Nat}(h:BO H k g=true):g=(H k).g∧(H k).live=true:=by
 simp only[BO,Yc]at h
 exact⟨Yd h.1,h.2⟩
theorem DO.at{r:Ren}{H a:Hp}(h:DO r H a){k:Ad}{g:Nat}(hl:BO H k g=true):r.γ k+g=(a (r.κ k)).g∧(a (r.κ k)).live=true∧(a (r.κ k)).e=(H k).e∧(a (r.κ k)).sz=(H k).sz∧(a (r.κ k)).cells=Aq r (H k).cells:=by
 obtain⟨b,c⟩:=DW hl
 rw[h k c]
 subst b
 exact⟨rfl,rfl,rfl,rfl,rfl⟩
def Bp(g:Option Bool)(S:Prop):Prop:=
 match g with
 |none=>S
 |some b=>b=true→S
theorem BD{g:Option Bool}{S:Prop}(a:∀b,g=some b→b=true)(h:Bp g S):S:=by
 unfold Bp at h
 grind
def Ek(cs:List AV)(off:Nat)(c:List AV):Prop:=(cs.drop off).take c.length=c
def IY(es:List (List D))(n:Int)(e:List D):Prop:=0≤n∧es[n.toNat]?=some e
def LR(n:Int)(len off sz o:Nat):Prop:=0≤n∧n<len∧(off+n.toNat)*sz=o
def I3(s:ByteArray)(n b:Int):Prop:=0≤n∧∃x:UInt8,s.data.toList[n.toNat]?=some x∧b=x.toNat
def CB(k:IntKind)(a r:Int):Prop:=k.wrap a=r
def BN(a b:Int):Prop:=a=b
def Ri(a b:Int):Prop:=a≠b
def Rh(a b:Int):Prop:=a≤b
def ZXs(a b:ByteArray):Prop:=a.size+b.size≤9223372036854775807
def Dg(dflt:Nat)(o:Option AV)(l:Nat):Prop:=
 match o with
 |none=>l=dflt
 |some (.d (.int _ n))=>n=l
 |_=>False
def EZ(l h n:Nat):Prop:=l≤h∧h≤n
def NR(es:List (List D))(sz l h:Nat)(a:List (List D)):Prop:=(∀e,e∈es→e.length=sz)∧(es.drop l).take (h-l)=a
def Zr(off l h o n:Nat):Prop:=off+l=o∧h-l=n
def eH(t:Bool)(a b:AV):AV:=
 match a,b with
 |.d (.bool x),.d (.bool y)=>.d (.bool (cond t x y))
 |a,b=>cond t a b
theorem ZA8(t:Bool)(a b:AV):eH t a b=if t then a else b:=by
 unfold eH
 grind
def Nd(i:TI)(H:Hp)(x:AV)(g:Option Bool)(a:AT)(K:AV→AT→Prop):Prop:=
 match x with
 |.iptr cs off=>match i.agg with
  |true=>match Nat.ble 1 i.siz,Jv i.siz (cs.drop off)with|true,some c=>K (.agg (c.map .d)) a|_,_=>False
  |false=>match Bu cs off with|some c=>K (.d c) a|none=>False
 |.ptr k q off=>match BO H k q with
  |true=>match a with
   |.go r=>(match i.agg with
    |true=>match Nat.ble 1 i.siz,Jv i.siz ((H k).cells.drop off)with|true,some c=>K (.agg c) r|_,_=>False
    |false=>match Bu (H k).cells off with|some c=>K c r|none=>False)
   |.cs c r=>(match i.agg with
    |true=>match Nat.ble 1 i.siz,Nat.beq c.length i.siz with|true,true=>Bp g (Ek (H k).cells off c)∧K (.agg c) r|_,_=>False
    |false=>match c with|[x]=>Bp g (Ek (H k).cells off [x])∧K x r|_=>False)
   |_=>False
  |false=>False
 |_=>False
def Vj(i:TI)(H:Hp)(f:Nat)(x:AV)(a:AT)(K:AV→AT→Prop):Prop:=
 match Bu i.fld f with
 |some (o,n,_)=>match Nat.ble 1 n with
  |true=>(match x with
   |.iptr cs off=>K (.iptr cs (off+o)) a
   |.ptr k q off=>match BO H k q with|true=>K (.ptr k q (off+o)) a|false=>False
   |_=>False)
  |false=>False
 |none=>False
def W6(i:TI)(f:Nat)(x:AV)(a:AT)(K:AV→AT→Prop):Prop:=
 match Bu i.fld f,x with
 |some (o,n,true),.agg cs=>(match Nat.ble 1 n with|true=>K (.agg ((cs.drop o).take n)) a|false=>False)
 |some (o,_,false),.agg cs=>(match Bu cs o with|some c=>K c a|none=>False)
 |_,_=>False
def Vg(i:TI)(H:Hp)(x j:AV)(g:Option Bool)(a:AT)(K:AV→AT→Prop):Prop:=
 match i.elm,j with
 |some (_,sz),.d (.int _ n)=>(match x,a with
  |.d (.list es),.ds e r=>(match Nat.beq e.length sz,Nat.ble 1 sz with|true,true=>Bp g (IY es n e)∧K (.iptr e 0) r|_,_=>False)
  |.ref k q off len,.nat o r=>(match BO H k q,Nat.beq (H k).sz sz,Nat.ble 1 sz with|true,true,true=>Bp g (LR n len off sz o)∧K (.ptr k q o) r|_,_,_=>False)
  |_,_=>False)
 |_,_=>False
def Xx(i:TI)(x j:AV)(g:Option Bool)(a:AT)(K:AV→AT→Prop):Prop:=
 match x,j,a with
 |.d (.str s),.d (.int _ n),.num b r=>(match Nat.beq i.kin 2 with|true=>Bp g (I3 s n b)∧K (.d (.int .u8 b)) r|false=>False)
 |_,_,_=>False
def Un(op:BinOp)(k:IntKind)(x y:Int)(g:Option Bool)(a:AT)(K:AV→AT→Prop):Prop:=
 match op with
 |.eql=>K (.d (.bool (decide (x=y)))) a
 |.neq=>K (.d (.bool (!decide (x=y)))) a
 |.lss=>K (.d (.bool (decide (x<y)))) a
 |.leq=>K (.d (.bool (decide (x≤y)))) a
 |.gtr=>K (.d (.bool (decide (y<x)))) a
 |.geq=>K (.d (.bool (decide (y≤x)))) a
 |.add=>match a with|.num n r=>Bp g (CB k (x+y) n)∧K (.d (.int k n)) r|_=>False
 |.sub=>match a with|.num n r=>Bp g (CB k (x-y) n)∧K (.d (.int k n)) r|_=>False
 |.mul=>match a with|.num n r=>Bp g (CB k (x*y) n)∧K (.d (.int k n)) r|_=>False
 |.quo=>match a with|.num n r=>Bp g (Ri y 0)∧Bp g (CB k (x.tdiv y) n)∧K (.d (.int k n)) r|_=>False
 |.rem=>match a with|.num n r=>Bp g (Ri y 0)∧Bp g (BN (x.tmod y) n)∧K (.d (.int k n)) r|_=>False
 |.shr=>match a with|.num n r=>Bp g (Rh 0 y)∧Bp g (BN (x.fdiv (2^(min y.toNat k.bits))) n)∧K (.d (.int k n)) r|_=>False
 |.shl=>match a with|.num n r=>Bp g (Rh 0 y)∧Bp g (CB k (x*2^(min y.toNat k.bits)) n)∧K (.d (.int k n)) r|_=>False
 |.and=>match a with|.num n r=>Bp g (BN (Dk k x y) n)∧K (.d (.int k n)) r|_=>False
 |.or=>match a with|.num n r=>Bp g (BN (GF k x y) n)∧K (.d (.int k n)) r|_=>False
 |.xor=>match a with|.num n r=>Bp g (BN (LX k x y) n)∧K (.d (.int k n)) r|_=>False
 |_=>False
def Tp(op:BinOp)(x y:ByteArray)(g:Option Bool)(a:AT)(K:AV→AT→Prop):Prop:=
 match op with
 |.add=>Bp g (ZXs x y)∧K (.d (.str (x++y))) a
 |.eql=>K (.d (.bool (decide (x=y)))) a
 |.neq=>K (.d (.bool (!decide (x=y)))) a
 |.lss=>K (.d (.bool (Bx x y))) a
 |.leq=>K (.d (.bool (Bx x y||decide (x=y)))) a
 |.gtr=>K (.d (.bool (!(Bx x y||decide (x=y))))) a
 |.geq=>K (.d (.bool (!Bx x y))) a
 |_=>False
def LY(H:Hp)(neg:Bool)(x:AV)(a:AT)(K:AV→AT→Prop):Prop:=
 match x with
 |.e0=>∀b,K (.d (.bool b)) a
 |.d (.list es)=>∀b,(es≠[]→b=neg)→K (.d (.bool b)) a
 |.ref k q _ n=>(match BO H k q with|true=>∀b,(n≠0→b=neg)→K (.d (.bool b)) a|false=>False)
 |_=>False
def ikB:IntKind→IntKind→Bool
 |.i8,.i8|.i16,.i16|.i32,.i32|.i64,.i64|.u8,.u8|.u16,.u16|.u32,.u32|.u64,.u64=>true
 |_,_=>false
theorem ZPA{a b:IntKind}(h:ikB a b=true):a=b:=by cases a<;>cases b<;>first|rfl|cases h
def Uo(i:TI)(H:Hp)(op:BinOp)(c:Bool)(x y:AV)(g:Option Bool)(a:AT)(K:AV→AT→Prop):Prop:=
 match x,y with
 |.d (.int k m),.d (.int k' n)=>(match ikB k k' with|true=>Un op k m n g a K|false=>False)
 |.d (.str m),.d (.str n)=>Tp op m n g a K
 |.d (.bool m),.d (.bool n)=>(match Nat.beq i.kin 1 with
  |true=>(match op with
   |.eql=>K (.d (.bool (m==n))) a
   |.neq=>K (.d (.bool (!(m==n)))) a
   |_=>False)
  |false=>False)
 |.agg xs,.agg ys=>(match i.eqt with
  |some ks=>(match EM ks xs ys with
   |some b=>(match op with
    |.eql=>K (.d (.bool b)) a
    |.neq=>K (.d (.bool (!b))) a
    |_=>False)
   |none=>False)
  |none=>False)
 |x,.e0=>(match c,Nat.beq i.kin 4 with
  |true,true=>(match op with
   |.eql=>LY H false x a K
   |.neq=>LY H true x a K
   |_=>False)
  |_,_=>False)
 |_,_=>False
def X3(op:UnOp)(x:AV)(g:Option Bool)(a:AT)(K:AV→AT→Prop):Prop:=
 match op,x with
 |.not,.d (.bool b)=>K (.d (.bool (!b))) a
 |.neg,.d (.int k n)=>(match a with|.num m r=>Bp g (CB k (0-n) m)∧K (.d (.int k m)) r|_=>False)
 |.xor,.d (.int k n)=>(match a with|.num m r=>Bp g (BN (I4 k n) m)∧K (.d (.int k m)) r|_=>False)
 |_,_=>False
def RQ(s d:TI)(x:AV)(g:Option Bool)(a:AT)(K:AV→AT→Prop):Prop:=
 match x with
 |.d (.int _ n)=>(match s.ik,d.ik,a with|some _,some k,.num m r=>Bp g (CB k n m)∧K (.d (.int k m)) r|_,_,_=>False)
 |.d (.str s')=>(match Nat.beq s.kin 2,Nat.beq d.kin 2 with|true,true=>K (.d (.str s')) a|_,_=>False)
 |_=>False
def WG(i:TI)(H:Hp)(x:AV)(lo hi:Option AV)(e:Bool)(g:Option Bool)(a:AT)(K:AV→AT→Prop):Prop:=
 match e,a with
 |false,.nat l (.nat h r)=>(match x with
  |.d (.str s)=>(match Nat.beq i.kin 2 with|true=>Bp g (Dg 0 lo l)∧Bp g (Dg s.size hi h)∧Bp g (EZ l h s.size)∧K (.d (.str (s.extract l h))) r|false=>False)
  |.d (.list es)=>(match i.elm,r with
   |some (_,sz),.av (.d (.list b)) r=>(match Nat.ble 1 sz with
    |true=>Bp g (Dg 0 lo l)∧Bp g (Dg es.length hi h)∧Bp g (EZ l h es.length)∧Bp g (NR es sz l h b)∧K (.d (.list b)) r
    |false=>False)
   |_,_=>False)
  |.ref k q off n=>(match i.elm,r,BO H k q with
   |some (_,sz),.nat d (.nat c r),true=>(match Nat.ble 1 sz,Nat.beq (H k).sz sz with
    |true,true=>Bp g (Dg 0 lo l)∧Bp g (Dg n hi h)∧Bp g (EZ l h n)∧Bp g (Zr off l h d c)∧K (.ref k q d c) r
    |_,_=>False)
   |_,_,_=>False)
  |_=>False)
 |_,_=>False
def T1(i:TI)(H:Hp)(x:AV)(g:Option Bool)(a:AT)(K:AV→AT→Prop):Prop:=
 match x,a with
 |.d (.str s),.num n r=>(match Nat.beq i.kin 2 with|true=>Bp g (BN s.size n)∧K (.d (.int .i64 n)) r|false=>False)
 |.d (.list es),.num n r=>(match Nat.beq i.kin 4 with|true=>Bp g (BN es.length n)∧K (.d (.int .i64 n)) r|false=>False)
 |.e0,.num n r=>(match Nat.beq i.kin 4 with|true=>Bp g (BN 0 n)∧K (.d (.int .i64 n)) r|false=>False)
 |.ref k q _ m,.num n r=>(match Nat.beq i.kin 4,BO H k q with|true,true=>Bp g (BN m n)∧K (.d (.int .i64 n)) r|_,_=>False)
 |_,_=>False
def qz(H:Hp):AV→Option (Bool×List (List D))
 |.d (.map q es)=>some (q,es)
 |.mp k g=>match BO H k g,(H k).e with
  |true,.m q es=>some (q,es)
  |_,_=>none
 |_=>none
def Nx:Bool→Bool→Bool
 |true,true=>true
 |false,false=>true
 |_,_=>false
theorem ll{a b:Bool}(h:Nx a b=true):a=b:=by cases a<;>cases b<;>first|rfl|cases h
def Qt(es:List (List D))(s:ByteArray)(z vs:List D)(ok:Bool):Prop:=(FP s es).isSome=ok∧(FP s es).getD z=vs
def S8(i:TI)(H:Hp)(x y:AV)(b:Bool)(g:Option Bool)(a:AT)(K:AV→AT→Prop):Prop:=
 match i.mp,qz H x,y,a with
 |some (q,z),some (c,es),.d (.str s),.av (.d (.bool ok)) (.ds vs r)=>(match Nx q c with
  |true=>Bp g (Qt es s z vs ok)∧K (NC b q vs ok) r
  |false=>False)
 |_,_,_,_=>False
def re(i:TI)(f:Nat):Option (Nat×Nat):=match Bu i.fld f with|some (o,n,_)=>some (o,n)|none=>none
def Qw(i:TI)(cells:List AV):List (Nat×AV)→Option (List AV)
 |[]=>some cells
 |(f,v)::rest=>match re i f,C1 v with
  |some (off,size),some vs=>match Nat.beq vs.length size,Nat.ble (off+vs.length) cells.length with
   |true,true=>Qw i (cells.take off++vs++cells.drop (off+vs.length)) rest
   |_,_=>none
  |_,_=>none
def V9(i:TI)(parts:List (Nat×AV))(a:AT)(K:AV→AT→Prop):Prop:=
 match i.str,i.zer with
 |true,some z=>(match Qw i z parts with|some cs=>K (.agg cs) a|none=>False)
 |_,_=>False
def IQ:AV→Bool
 |.fn (.yield _) _ _=>false
 |_=>true
def tV(T:Nat→Option TI)(H:Hp)(op:Op)(ρ:Operand→AV)(g:Option Bool)(a:AT)(K:AV→AT→Prop):Prop:=
 match op with
 |.move x=>K (ρ x) a
 |.assign x=>K (ρ x) a
 |.pick c x y=>match ρ c with|.d (.bool t)=>K (eH t (ρ x) (ρ y)) a|_=>False
 |.load t x=>match T t with|some i=>Nd i H (ρ x) g a K|none=>False
 |.fieldAddr t x f=>match T t with|some i=>Vj i H f (ρ x) a K|none=>False
 |.field t x f=>match T t with|some i=>W6 i f (ρ x) a K|none=>False
 |.indexAddr t x j=>match T t with|some i=>Vg i H (ρ x) (ρ j) g a K|none=>False
 |.index t x j=>match T t with|some i=>Xx i (ρ x) (ρ j) g a K|none=>False
 |.extract x j=>match ρ x with|.tup vs=>(match Bu vs j with|some y=>K y a|none=>False)|_=>False
 |.binOp o t x y _=>match T t with|some i=>Uo i H o (Jn y) (ρ x) (ρ y) g a K|none=>False
 |.unOp o _ x=>X3 o (ρ x) g a K
 |.nilCheck x=>match ρ x with|.ptr k q off=>(match BO H k q with|true=>K (.ptr k q off) a|false=>False)|.iptr cs off=>K (.iptr cs off) a|_=>False
 |.convert s d x=>match T s,T d with|some i,some j=>RQ i j (ρ x) g a K|_,_=>False
 |.makeInterface t x=>match T t with|some i=>(match i.str||i.elm.isSome,ρ x with|true,.agg xs=>(match L4 xs with|some ds=>K (.ifc t ds true) a|none=>False)|true,.d x=>K (.ifc t [x] false) a|_,_=>False)|none=>False
 |.typeAssert x _ t ok=>match T t with|some i=>(match i.str||i.elm.isSome,ρ x with|true,.ifc u ds q=>(match Nat.beq u t,upk q ds with|true,some v=>K (cond ok (.tup [v,.d (.bool true)]) v) a|_,_=>False)|_,_=>False)|none=>False
 |.makeFunc fn first b=>match fn with|.yield _=>False|fn=>K (.fn fn (first.toList.map ρ) (b.toList.map ρ)) a
 |.slice t x lo hi h=>match T t with|some i=>WG i H (ρ x) (lo.map ρ) (hi.map ρ) h.isSome g a K|none=>False
 |.lookup t x y e=>match T t with|some i=>S8 i H (ρ x) (ρ y) e g a K|none=>False
 |.build t parts=>match T t,parts.toList.all (fun p=>IQ (ρ p.2))with|some i,true=>V9 i (parts.toList.map fun p=>(p.1,ρ p.2)) a K|_,_=>False
 |.call c=>match c.callee,c.args.toList,c.argTypes.toList with
  |.builtin .len,[x],[t]=>match T t with|some i=>T1 i H (ρ x) g a K|none=>False
  |.builtin .min,[x,y],_=>EA false (ρ x) (ρ y) (fun v=>K v a)
  |.builtin .max,[x,y],_=>EA true (ρ x) (ρ y) (fun v=>K v a)
  |.builtin .max,[x,y,z],_=>G8 true (ρ x) (ρ y) (ρ z) (fun v=>K v a)
  |_,_,_=>False
 |_=>False
end Go.Eng
