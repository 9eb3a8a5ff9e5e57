import Derived.Test.YtopncadjpnkjhaaGreatDoorZj02
import Derived.KernelRfl
import Derived.Still
import Derived.IntWalk
import Derived.Test.YtopncadjpnkjhaaGreatDoorZj00
namespace Go.Eng
set_option linter.all false
open Go Go.RowKit
def args(xs:List AV):Nat→AV:=fun i=>(xs[i]?).getD .top
def CL(l:Nat)(H:Hp):Hp:=fun k=>if k.1≤l then H k else⟨0,false,0,0,[]⟩
def G1(l:Nat)(H' H:Hp):Hp:=fun k=>if k.1≤l then H' k else H k
def DQ(P:Program)(σ:St):List ResultVar→(List AV→Prop)→Prop
 |[],K=>K []
 |.tmp t::b,K=>DQ P σ b (fun xs=>K (σ.s t::xs))
 |.cell a t::b,K=>DM P σ.H t (σ.s a) (fun x=>DQ P σ b (fun xs=>K (x::xs)))
def C9:List AV→AV
 |[x]=>x
 |xs=>.tup xs
inductive Fz (H:Hp) (l:Nat):AV→AV→Prop
 |keep (x:AV) (h:x.low l=true):Fz H l x x
 |e0:Fz H l .e0 (.d (.list []))
 |mp (k:Ab) (a:Bool) (es:List (List D)) (hk:k.1=l+1) (hl:(H k).live=true) (he:(H k).e=.m a es):Fz H l (.mp k (H k).g) (.d (.map a es))
 |ref (k:Ab) (off n:Nat) (es:List (List D)) (hk:k.1=l+1) (hl:(H k).live=true) (hn:es.length=n) (hz:(H k).sz≠0) (he:∀e,e∈es→e.length=(H k).sz)
   (hlen:(off+n)*(H k).sz≤(H k).cells.length)
   (h:∀(i j:Nat) (e:List D) (d:D) (x:AV),es[i]?=some e→e[j]?=some d→(H k).cells[(off+i)*(H k).sz+j]?=some x→Fz H l x (.d d)):
   Fz H l (.ref k (H k).g off n) (.d (.list es))
 |agg (xs ys:List AV) (hl:xs.length=ys.length) (h:∀(i:Nat) (x y:AV),xs[i]?=some x→ys[i]?=some y→Fz H l x y):Fz H l (.agg xs) (.agg ys)
 |tup (xs ys:List AV) (hl:xs.length=ys.length) (h:∀(i:Nat) (x y:AV),xs[i]?=some x→ys[i]?=some y→Fz H l x y):Fz H l (.tup xs) (.tup ys)
def dm(P:Program)(fn:Func)(l:Nat)(H:Hp)(a:AV→Hp→Prop):Exit→St→Prop:=fun e σ=>
 (e=.normal∨e=.ret)∧DQ P σ fn.results.toList (fun xs=>∃y,Fz σ.H l (C9 xs) y∧a y (G1 l σ.H H))
section
variable {P:Program} {l n:Nat} {B:Base} {H H':Hp} {m m':Mu} {S S':Nat→Prop} {w w':World} {s:Nat→AV} {a:Act} {K:St→Prop} {o:Oper} {σ:St} {Q:Exit→St→Prop}
theorem si{t:TypeId}{v b:Value}(h:(Instr.loadAt t v).run P w=.ok b w):(do loadVar t (←asAddr v):Sem Value).run P w=.ok b w:=by
 cases v<;>try (simp[Instr.loadAt,Instr.sureAddr]at h;done)
 rename_i p
 cases p with
 |none=>simp[Instr.loadAt,Instr.sureAddr]at h
 |some a=>simpa[Instr.loadAt,Instr.sureAddr,asAddr]using h
def LH(tmps:Array Value):ResultVar→Sem Value
 |.tmp t=>pure (tmps.getD t undef)
 |.cell p t=>do loadVar t (←asAddr (tmps.getD p undef))
theorem Vn(n:Ok (l+1) H m S w)(c:Co (l+1) s H m S a w):∀(rs:List ResultVar) (K:List AV→Prop),DQ P ⟨s,H⟩ rs K→
  ∃(vs:List Value) (xs:List AV),(rs.mapM (LH a.tmps)).run P w=.ok vs w∧xs.length=vs.length∧
   (∀(i:Nat) (x:AV) (v:Value),xs[i]?=some x→vs[i]?=some v→RepA w S H m (l+1) x v)∧K xs
 |[],K,h=>⟨[],[],by simp,rfl,fun i x v h=>by simp at h,h⟩
 |.tmp t::b,K,h=>by
  obtain⟨vs,xs,g,j,o,k⟩:=Vn n c b _ h
  refine⟨a.tmps.getD t undef::vs,s t::xs,by simp only[N4,LH,Sem.run_bind,Sem.run_pure,Result.andThen_ok,g],by simp[j],fun i x v f d=>?_,k⟩
  cases i with
  |zero=>simp at f d;subst f;subst d;simpa using c t
  |succ i=>exact o i x v (by simpa using f) (by simpa using d)
 |.cell p t::b,K,h=>by
  obtain⟨v0,u,q,y,r⟩:=fH h (c p) n
  obtain⟨vs,xs,g,j,o,k⟩:=Vn n c b _ r
  refine⟨v0::vs,u::xs,?_,by simp[j],fun i x v f d=>?_,k⟩
  ·have:=si q
   have e:(LH a.tmps (.cell p t)).run P w=.ok v0 w:=this
   simp only[N4,Sem.run_bind,e,Sem.run_pure,Result.andThen_ok,g]
  grind
def Kb(l:Nat)(H:Hp)(m:Mu)(S:Nat→Prop):Nat→Prop:=fun b=>S b∨∃k:Ab,k.1=l+1∧(H k).live=true∧((m k).cap≠0∨(H k).e.isO=true)∧b=(m k).b
theorem Ok.fin(h:Ok (l+1) H m S w):Ok l H m (Kb l H m S) w∧Ext l H m S w H m (Kb l H m S) w:=by
 have n:Ext (l+1) H m S w H m (Kb l H m S) w:=⟨fun _ h=>.inl h,fun _ _=>rfl,fun _ _=>Yh _,fun _ _ _ h=>⟨h,rfl,rfl⟩,rfl,rfl,rfl,Yh _⟩
 refine⟨⟨fun b c=>?_,fun q u=>h.empty q (by omega),fun q u hl g=>?_,fun q A u z=>h.inj q A (by omega) (by omega),fun q u hl g=>?_,
  ⟨fun k p j=>(h.mp.o k (by omega) j).mono (fun _ h=>.inl h) (fun _ _=>rfl) (fun _=>rfl),fun k p j he=>?_,fun k k' p s=>h.mp.i k k' (by omega) (by omega)⟩⟩,n.mono (by omega)⟩
 ·rcases c with c|⟨k,p,hl,g,rfl⟩
  ·exact h.sub b c
  ·rcases g with g|g
   ·obtain⟨C,c,_⟩:=h.blk k (by omega) hl g
    grind
   ·obtain⟨o,c,_⟩:=(h.mp.o k (by omega) hl).at g
    grind
 ·rintro(hs|⟨k,p,f,a,e⟩)
  ·exact h.fresh q (by omega) hl g hs
  ·rcases a with a|a
   ·have:=h.inj q k (by omega) (by omega) hl f g a e
    grind
   ·obtain⟨o,c,r⟩:=(h.mp.o k (by omega) f).at a
    obtain⟨C,d,_⟩:=h.blk q (by omega) hl g
    rw[e,c]at d;cases d;cases r
 ·obtain⟨C,c,hs,t,y⟩:=h.blk q (by omega) hl g
  exact⟨C,c,hs,t,fun i x v hi j=>⟨(y i x v hi j).1,(y i x v hi j).2.ext n (by omega)⟩⟩
 ·refine⟨(h.mp.c k (by omega) j he).1,?_⟩
  rintro(hs|⟨k',s,f,a,e⟩)
  ·exact(h.mp.c k (by omega) j he).2 hs
  ·rcases a with a|a
   ·obtain⟨o,c,r⟩:=(h.mp.o k (by omega) j).at he
    obtain⟨C,d,_⟩:=h.blk k' (by omega) f a
    rw[←e,c]at d;cases d;cases r
   ·have:=h.mp.i k k' (by omega) (by omega) j f he a e
    grind
theorem Fz.sound{x y:AV}(h:Fz H l x y)(R:Ok (l+1) H m S w):∀{v:Value},RepA w S H m (l+1) x v→RepA w (Kb l H m S) H m l y v:=by
 have u:Ext (l+1) H m S w H m (Kb l H m S) w:=⟨fun _ h=>.inl h,fun _ _=>rfl,fun _ _=>Yh _,fun _ _ _ h=>⟨h,rfl,rfl⟩,rfl,rfl,rfl,Yh _⟩
 induction h with
 |keep x h=>exact fun b=>(b.ext u (Yh _)).low h
 |e0=>
  intro v b
  cases b with
  |e0 O=>exact(RepA.e0 O).e0_d
 |mp k a es J hl he=>
  intro v b
  generalize G:(H k).g=g at b
  cases b with
  |mpD _ _ _ q I t p=>rw[t G.symm]at hl;cases hl
  |mpL _ q r=>
   have V:=R.mp.o k (by omega) hl
   rw[he]at V
   obtain⟨ents,B,p,P⟩:=V
   exact .d _ _ (.ofM (.inr ⟨k,J,hl,.inr (by rw[he];rfl),rfl⟩) p (P.mono (fun _ h=>.inl h) (fun _ _=>rfl)))
 |ref k off n es J hl K hz he o h z=>
  intro v b
  generalize G:(H k).g=g at b
  cases b with
  |refD _ _ _ _ _ q I t p=>rw[t G.symm]at hl;cases hl
  |refL _ _ _ O q r U T=>
   by_cases L:n=0
   ·subst L
    have:es=[]:=Y8 K
    subst this
    cases O with
    |none=>
     have e:(m k).cap-off=0:=by
      rcases Yz off (m k).cap with h|h
      ·have:=T h;cases this
      ·omega
     rw[e]
     exact .d _ _ .nil
    |some ad=>exact .d _ _ (.list [] ad 0 _ (fun _ _=>.bool true) (fun h=>absurd rfl h) (D0 _) (fun _ h=>by cases h) (fun i j e x h=>by simp at h) (fun i j e x h=>by simp at h))
   ·have M:=T (by omega)
    subst M
    obtain⟨F,C,p,P,h3,Q⟩:=R.row (k:=k) (by omega) hl (by
     intro e
     rw[e,YN]at o
     have:=N9 (show 0<n by omega) (show 0<(H k).sz by omega)
     simp at o
     omega)
    have s:∀(i j:Nat) (e:List D) (d:D),es[i]?=some e→e[j]?=some d→(off+i)*(H k).sz+j<(H k).cells.length:=by
     intro i j e d hi f
     have X:i<n:=by
      rw[←K]
      rcases Yz i es.length with h|h
      ·exact h
      ·rw[YI h]at hi;cases hi
     have Y:j<(H k).sz:=by
      rw[←he e (Yn hi)]
      rcases Yz j e.length with h|h
      ·exact h
      ·rw[YI h]at f;cases f
     have:(off+i+1)*(H k).sz≤(off+n)*(H k).sz:=YX _ (by omega)
     rw[YN (off+i)]at this
     omega
    have:=RepD.list (w:=w) (S:=Kb l H m S) es ⟨(m k).b,(m k).o+off*(H k).sz,none⟩ (H k).sz ((m k).cap-off) (fun i j=>(C[(m k).o+((off+i)*(H k).sz+j)]?).getD undef)
     (fun _=>.inr ⟨k,J,hl,.inl F,rfl⟩) (by omega) he
     (fun i j e d hi f=>by
      obtain⟨v,A,_,_⟩:=Q _ _ (Ye (s i j e d hi f))
      rw[Addr.add_lit,Ht p,A]
      rw[show(m k).o+off*(H k).sz+(i*(H k).sz+j)=(m k).o+((off+i)*(H k).sz+j)from by rw[YN];omega,A]
      rfl)
     (fun i j e d hi f=>by
      obtain⟨v,A,Z,W⟩:=Q _ _ (Ye (s i j e d hi f))
      rw[A]
      have:=z i j e d _ hi f (Ye (s i j e d hi f)) W
      cases this with
      |d _ _ t=>exact t)
    rw[K]at this
    exact .d _ _ this
 |agg xs ys hl h z=>
  intro v b
  cases b with
  |agg _ vs r p E=>
   refine .agg _ _ (by omega) p (fun i y v hy N=>?_)
   have c:i<xs.length:=by
    rw[hl]
    rcases Yz i ys.length with h|h
    ·exact h
    ·rw[YI h]at hy;cases hy
   exact z i _ y (Ye c) hy (E i _ v (Ye c) N)
 |tup xs ys hl h z=>
  intro v b
  cases b with
  |tup _ vs r E=>
   refine .tup _ _ (by omega) (fun i y v hy N=>?_)
   have c:i<xs.length:=by
    rw[hl]
    rcases Yz i ys.length with h|h
    ·exact h
    ·rw[YI h]at hy;cases hy
   exact z i _ y (Ye c) hy (E i _ v (Ye c) N)
theorem q8{fn:Func}{KK:List AV→Prop}(j:Ok (l+1) H m S w)(k:Co (l+1) s H m S a w)(h:DQ P ⟨s,H⟩ fn.results.toList KK):
  ∃v xs,(results fn a.tmps).run P w=.ok v w∧RepA w S H m (l+1) (C9 xs) v∧KK xs:=by
 obtain⟨vs,xs,d,c,b,g⟩:=Vn j k _ _ h
 have o:∀f:ResultVar→Sem Value,(∀r,f r=LH a.tmps r)→(fn.results.mapM f).run P w=.ok vs.toArray w:=by
  intro f n
  have:f=LH a.tmps:=funext n
  subst this
  rw[ab]
  simp[d]
 refine⟨if h:vs.toArray.size=1 then vs.toArray[0]else .tuple vs.toArray,xs,?_,?_,g⟩
 ·unfold results
  simp only[Sem.run_bind]
  rw[o _ (fun r=>by cases r<;>rfl)]
  simp
 ·match xs,vs,c,b with
  |[x],[v],_,b=>exact b 0 x v rfl rfl
  |[],[],_,_=>exact .tup _ _ rfl (fun i x v h=>by simp[C9]at h)
  |x::x'::xs,v::t::vs,c,b=>
   have e:¬((v::t::vs).toArray.size=1):=by simp
   rw[dif_neg e]
   exact .tup _ _ (by simpa using c) (fun i x v q p=>b i x v q (by simpa using p))
theorem ui{P:Program}{f:FuncId}{fn:Func}{c:Code}{n l:Nat}{xs:List AV}{H:Hp}{s:AV→Hp→Prop}(hf:P.funcs[f]?=some fn)(hb:fn.body=some c)(G:(fn.name== "runtime.NumGoroutine")=false)
  (hn:fn.ntmps=n) (hx:xs.length≤n) (h:∀B:Base,Bn P l n B c (dm P fn l H s) ⟨args xs,CL l H⟩):Zca P f l xs H s:=by
 refine⟨⟨fn,c,hf,hb,G⟩,fun m S w vs K j=>?_⟩
 have a:∀k:Ab,k.1≤l→CL l H k=H k:=fun k g=>by unfold CL;rw[Yi g]
 have hdead:∀k:Ab,¬k.1≤l→(CL l H k).live=false:=fun k g=>by unfold CL;rw[Yj g]
 have u:∀k:Ab,(CL l H k).live=true→k.1≤l:=fun k hl=>by
  grind
 have X:Ok (l+1) (CL l H) m S w:=by
  refine⟨K.sub,fun q d hl o=>?_,fun q d hl o=>?_,fun q M d I hl t o J heq=>?_,fun q d hl o=>?_,
   K.mp.stepL (fun q _ hl _=>by have:=u q hl;rw[a q this]at hl⊢;exact⟨this,hl,rfl,rfl⟩) (fun _ h=>h) (fun _ h=>.inl h) (fun _ _=>rfl) (fun _ _ h _=>h)⟩
  ·have:=u q hl;rw[a q this]at hl⊢;exact K.empty q this hl o
  ·have:=u q hl;rw[a q this]at hl;exact K.fresh q this hl o
  ·have e:=u q hl
   have e':=u M t
   rw[a q e]at hl;rw[a M e']at t
   exact K.inj q M e e' hl t o J heq
  ·have e:=u q hl
   rw[a q e]at hl⊢
   obtain⟨C,U,V,W,T⟩:=K.blk q e hl o
   exact⟨C,U,V,W,fun i x v hi O=>⟨(T i x v hi O).1,(T i x v hi O).2.agree (fun k g=>a k (by omega)) (fun _ _=>rfl)⟩⟩
 have hE:Ext l H m S w (CL l H) m S w:=⟨fun _ h=>h,fun _ _=>rfl,fun k g=>by rw[a k g];exact Yh _,fun k g _ hl=>by rw[a k g]at hl⊢;exact⟨hl,rfl,rfl⟩,rfl,rfl,rfl,Yh _⟩
 have hR:R l n ⟨H,m,S,w⟩ ⟨args xs,CL l H⟩ {tmps:=vs++Array.replicate (fn.ntmps-vs.size) undef,defers:=[] } w:=by
  refine⟨m,S,X,by simp[hn];rw[←j.1];omega,rfl,fun i=>?_,hE⟩
  simp only[args]
  cases hi:xs[i]? with
  |none=>exact .top _
  |some x=>
   have hlt:i<xs.length:=by
    grind
   have D:i<vs.size:=by rw[←j.1];exact hlt
   rw[Ys,SI D,Ym D]
   exact((j.2 i x _ hi (Ym D)).agree (fun k g=>a k g) (fun _ _=>rfl)).lvl (Nat.le_succ l)
 refine calls_of_wp hf hb (wp_mono (h ⟨H,m,S,w⟩ _ w hR) fun e a' w' ⟨σ',d,Y⟩=>?_)
 obtain⟨s',H'⟩:=σ'
 obtain⟨m',S',A,hn',hd',Z,N⟩:=Y.un
 have done:DQ P ⟨s',H'⟩ fn.results.toList (fun xs=>∃y,Fz H' l (C9 xs) y∧s y (G1 l H' H))→a'.defers=[]∧∃v,(results fn a'.tmps).run P w'=.ok v w'∧
   (∃r Q p E z,Ending.returned v=.returned Q∧s r p∧Ok l p E z w'∧RepA w' z p E l r Q∧Ext l H m S w p E z w'):=by
  intro hr
  obtain⟨v,xs,U,V,y,W,T⟩:=q8 A Z hr
  obtain⟨L,k2⟩:=A.fin
  have b:∀k:Ab,k.1≤l→G1 l H' H k=H' k:=fun k g=>by unfold G1;rw[Yi g]
  refine⟨hd',v,U,y,v,G1 l H' H,m',_,rfl,T,?_,(W.sound A V).agree b (fun _ _=>rfl),?_⟩
  ·refine⟨L.sub,fun q d hl o=>?_,fun q d hl o=>?_,fun q M d I hl t o J heq=>?_,fun q d hl o=>?_,
    L.mp.step (Yh _) (fun q d hl _=>by rw[b q d]at hl⊢;exact⟨hl,rfl,rfl⟩) (fun _ h=>h) (fun _ h=>.inl h) (fun _ _=>rfl) (fun _ _ h _=>h)⟩
   ·rw[b q d]at hl⊢;exact L.empty q d hl o
   ·rw[b q d]at hl;exact L.fresh q d hl o
   ·rw[b q d]at hl;rw[b M I]at t;exact L.inj q M d I hl t o J heq
   ·rw[b q d]at hl⊢
    obtain⟨C,g1,g2,g3,g4⟩:=L.blk q d hl o
    exact⟨C,g1,g2,g3,fun i x v hi O=>⟨(g4 i x v hi O).1,(g4 i x v hi O).2.agree (fun k g=>b k (by omega)) (fun _ _=>rfl)⟩⟩
  ·have F:=Ext.trans (show Ext l H m S w H' m' S' w' from N) k2
   exact⟨F.s,F.blk,fun k g=>by rw[b k g];exact F.g k g,fun k g hg hl=>by rw[b k g]at hg hl⊢;exact F.live k g hg hl,F.os,F.tape,F.output,F.size⟩
 rcases d.1 with rfl|rfl
 ·exact done d.2
 ·exact done d.2
end
end Go.Eng
namespace Go.Eng
set_option linter.all false
open Go Go.RowKit
section
variable {P:Program} {l n:Nat} {ds:List (Option Nat)} {ops rest:List Oper} {K:St→Prop} {s:Nat→AV} {H:Hp} {d:Option Nat} {op:Op} {ty:TypeId} {ps:String} {af:Array Edge} {g:Option (Nat×Bool)}
variable {x y:Operand} {t:TypeId}
theorem W5{l:Nat}{H:Hp}{k:Ab}(h:k.1≤l):CL l H k=H k:=by unfold CL;rw[Yi h]
theorem xW{l:Nat}{H:Hp}{i:Nat}:CL l H (l+1,i)=⟨0,false,0,0,[]⟩:=by unfold CL;rw[Yj (by simp)]
end
def BU(o:Oper):Bool:=o.dst.isSome&&match o.op with
 |.call c=>match c.callee with
  |.value _=>true
  |.builtin .len|.builtin .min|.builtin .max=>true
  |_=>false
 |.binOp _ _ _ y _=>!Hv y
 |.alloc _|.box _ _|.store _ _ _|.buildSlice _ _ _|.makeSlice _ _ _|.makeMap _ _|.range _ _|.next _ _|.entry _=>false
 |_=>true
def Tv(o:Oper):Bool:=match o.op with
 |.buildSlice _ (_+1) _=>true
 |_=>false
def Ct(o:Oper):Bool:=BU o||(o.dst.isSome&&Tv o)
def eU(P:Program)(t:TypeId)(len:Nat)(ps:List (Nat×AV))(v:AV):Prop:=
 ∃e sz z es,elm P t=some (e,sz)∧sz≠0∧(len+1)*sz≤16777216∧zer P e=some z∧z.length=sz∧EP sz 0 ps=some es∧es.length=len+1∧v=.d (.list es)
def qV(P:Program)(l:Nat)(H:Hp)(o:Oper)(ρ:Operand→AV)(v:AV):Prop:=
 match o.op with
 |.buildSlice t (len+1) parts=>eU P t len (parts.toList.map fun p=>(p.1,ρ p.2)) v
 |.call c=>match c.callee with
  |.value f=>match ρ f with
   |.fn (.func g) first a=>Zca P g (l+1) (first++c.args.toList.map ρ++a) H (fun y b=>y=v∧b=H)
   |_=>False
  |_=>AS P H o.op ρ (fun y=>y=v)
 |_=>AS P H o.op ρ (fun y=>y=v)
def EE(P:Program)(l n:Nat)(o:Oper)(K:St→Prop)(σ:St):Prop:=
 match o.op with
 |.buildSlice t (len+1) parts=>∃v,eU P t len (parts.toList.map fun p=>(p.1,ev σ.s p.2)) v∧B9 n o.dst K σ v
 |.call c=>match c.callee with
  |.value f=>match ev σ.s f with
   |.fn (.func g) first a=>∃r,Zca P g (l+1) (first++c.args.toList.map (ev σ.s)++a) σ.H (fun y b=>y=r∧b=σ.H)∧B9 n o.dst K σ r
   |_=>False
  |_=>Bg P l n o K σ
 |_=>Bg P l n o K σ
def Df(P:Program)(l n:Nat)(ds:List (Option Nat)):List Oper→(St→Prop)→St→Prop
 |[],K,σ=>K σ
 |o::a,K,σ=>match o.guard with
  |none=>EE P l n o (Df P l n ds a K) σ
  |some (i,b)=>match G0 σ.s ds i b with
   |some t=>(t=true→EE P l n o (Df P l n ds a K) σ)∧(t=false→match o.dst with|some d=>d<n∧Df P l n ds a K ⟨upd σ.s d (.tup []),σ.H⟩|none=>False)
   |none=>False
section
variable {P:Program} {l n:Nat} {B:Base} {H:Hp} {K K':AV→Prop} {t:TypeId} {x y:AV} {ρ ρ':Operand→AV}
theorem gL{op:BinOp}{k:IntKind}{a b:Int}(h:∀v,K v→K' v)(c:Fk op k a b K):Fk op k a b K':=by
 cases op<;>simp only[Fk]at c⊢<;>first|exact h _ c|exact⟨c.1,h _ c.2⟩|exact c
theorem gD{op:BinOp}{a b:ByteArray}(h:∀v,K v→K' v)(c:Fm op a b K):Fm op a b K':=by
 cases op<;>simp only[Fm]at c⊢<;>first|exact h _ c|exact⟨c.1,h _ c.2⟩|exact c
theorem tW{op:BinOp}{k:IntKind}{a b:Int}(c:Fk op k a b K):∃v,Fk op k a b (fun y=>y=v)∧K v:=by
 cases op<;>simp only[Fk]at c⊢<;>first|exact⟨_,rfl,c⟩|exact⟨_,⟨c.1,rfl⟩,c.2⟩|exact c.elim
theorem tG{op:BinOp}{a b:ByteArray}(c:Fm op a b K):∃v,Fm op a b (fun y=>y=v)∧K v:=by
 cases op<;>simp only[Fm]at c⊢<;>first|exact⟨_,rfl,c⟩|exact⟨_,⟨c.1,rfl⟩,c.2⟩|exact c.elim
theorem tq(h:DM P H t x K):∃v,DM P H t x (fun y=>y=v)∧K v:=by
 unfold DM at h⊢
 split at h
 ·grind
 ·grind
 grind
theorem qW{i:Nat}(h:D1 P H t i x K):∃v,D1 P H t i x (fun y=>y=v)∧K v:=by
 unfold D1 at h⊢
 grind
theorem rU{i:Nat}(h:D6 P t i x K):∃v,D6 P t i x (fun y=>y=v)∧K v:=by
 unfold D6 at h⊢
 split at h
 ·split at h
  ·grind
  grind
 grind
theorem qS(h:DD P H t x y K):∃v,DD P H t x y (fun y=>y=v)∧K v:=by
 unfold DD at h⊢
 grind
theorem sB(h:Eu P t x y K):∃v,Eu P t x y (fun y=>y=v)∧K v:=by
 unfold Eu at h⊢
 grind
theorem uk{op:BinOp}{xs ys:List AV}(h:FV P op t xs ys K):∃v,FV P op t xs ys (fun y=>y=v)∧K v:=by
 unfold FV at h⊢
 split at h
 ·grind
 grind
theorem vh{op:BinOp}(h:Ch P H op t false x y K):∃v,Ch P H op t false x y (fun y=>y=v)∧K v:=by
 unfold Ch at h⊢
 split at h
 ·obtain⟨v,a,b⟩:=tW h.2;exact⟨v,⟨h.1,a⟩,b⟩
 ·exact tG h
 ·grind
 ·exact uk h
 ·cases h.1
 grind
theorem w5{op:UnOp}(h:DW op x K):∃v,DW op x (fun y=>y=v)∧K v:=by
 unfold DW at h⊢
 grind
theorem ts{u:TypeId}(h:D8 P t u x K):∃v,D8 P t u x (fun y=>y=v)∧K v:=by
 unfold D8 at h⊢
 grind
theorem sA{lo hi:Option AV}{a:Bool}(h:DL P H t x lo hi a K):∃v,DL P H t x lo hi a (fun y=>y=v)∧K v:=by
 unfold DL at h⊢
 grind
theorem vt(h:Dg P H t x K):∃v,Dg P H t x (fun y=>y=v)∧K v:=by
 unfold Dg at h⊢
 grind
theorem sx{ps:List (Nat×AV)}(h:Et P t ps K):∃v,Et P t ps (fun y=>y=v)∧K v:=by
 unfold Et at h⊢
 grind
theorem wI{op:Op}(g:∀o t x y u,op=.binOp o t x y u→Hv y=false)(h:AS P H op ρ K):∃v,AS P H op ρ (fun y=>y=v)∧K v:=by
 cases op<;>simp only[AS]at h⊢<;>try exact h.elim
 case move x=>exact⟨_,rfl,h⟩
 case assign x=>exact⟨_,rfl,h⟩
 case pick c a b=>
  split at h
  ·grind
  ·grind
 case load=>exact tq h
 case fieldAddr=>exact qW h
 case field=>exact rU h
 case indexAddr=>exact qS h
 case index=>exact sB h
 case extract=>
  split at h
  ·grind
  ·grind
 case binOp o t x y u=>
  rw[g _ _ _ _ _ rfl]at h⊢
  exact vh h
 case unOp=>exact w5 h
 case convert=>exact ts h
 case nilCheck=>
  unfold HV at h⊢
  split at h
  ·grind
  ·grind
  ·grind
 case makeFunc=>exact⟨_,rfl,h⟩
 case makeInterface=>
  obtain⟨d,h⟩:=h
  repeat' split at h
  all_goals first|exact h.elim|exact⟨_,⟨d,rfl⟩,h⟩
 case typeAssert=>
  obtain⟨d,h⟩:=h
  repeat' split at h
  all_goals first|exact h.elim|exact⟨_,⟨d,h.1,rfl⟩,h.2⟩
 case slice=>exact sA h
 case build=>exact sx h
 case lookup=>exact sY h
 case call c=>
  split at h
  ·obtain⟨v,e,f⟩:=vt h.2;exact⟨v,⟨h.1,e⟩,f⟩
  ·split at h
   ·unfold DA at h⊢
    grind
   ·unfold FN at h⊢
    grind
   grind
  ·grind
theorem hX{op:Op}(e:∀o t x y u,op=.binOp o t x y u→Hv y=false){v:AV}(d:K v)(h:AS P H op ρ (fun y=>y=v)):AS P H op ρ K:=by
 have:(fun y=>y=v)=(fun y=>y=v∧K v):=by funext y;simp[d]
 rw[this]at h
 clear this d
 cases op<;>simp only[AS]at h⊢<;>try exact h.elim
 case move x=>exact h.1▸h.2
 case assign x=>exact h.1▸h.2
 case pick c a b=>
  split at h
  ·grind
  ·grind
 case load t x=>
  unfold DM at h⊢
  split at h
  ·grind
  ·grind
  ·grind
 case fieldAddr=>
  unfold D1 at h⊢
  split at h
  ·grind
  ·grind
  ·grind
 case field=>
  unfold D6 at h⊢
  split at h
  ·split at h
   ·grind
   grind
  ·grind
 case indexAddr=>
  unfold DD at h⊢
  split at h
  ·grind
  ·grind
  ·grind
 case index=>
  unfold Eu at h⊢
  split at h
  ·grind
  ·grind
 case makeInterface=>
  refine⟨h.1,?_⟩
  replace h:=h.2
  repeat' split at h
  all_goals first|exact h.elim|exact h.1▸h.2
 case typeAssert=>
  refine⟨h.1,?_⟩
  replace h:=h.2
  repeat' split at h
  all_goals first|exact h.elim|exact⟨h.1,h.2.1▸h.2.2⟩
 case extract=>
  split at h
  ·grind
  ·grind
 case binOp o t x y u=>
  rw[e _ _ _ _ _ rfl]at h⊢
  unfold Ch at h⊢
  split at h
  ·exact⟨h.1,gL (fun y (hy:y=v∧K v)=>hy.1▸hy.2) h.2⟩
  ·exact gD (fun y (hy:y=v∧K v)=>hy.1▸hy.2) h
  ·grind
  ·unfold FV at h⊢
   split at h
   ·split at h
    ·grind
    grind
   grind
  ·cases h.1
  ·grind
 case unOp=>
  unfold DW at h⊢
  split at h<;>grind
 case nilCheck=>
  unfold HV at h⊢
  split at h
  ·grind
  ·grind
  ·grind
 case convert=>
  unfold D8 at h⊢
  split at h
  ·grind
  ·grind
  ·grind
 case makeFunc=>exact h.1▸h.2
 case slice=>
  unfold DL at h⊢
  split at h
  ·grind
  ·grind
  ·grind
  ·grind
 case build=>
  unfold Et at h⊢
  split at h
  ·grind
  ·grind
 case lookup=>exact gu (fun y (hy:y=v∧K v)=>hy.1▸hy.2) h
 case call c=>
  split at h
  ·refine⟨h.1,?_⟩
   replace h:=h.2
   unfold Dg at h⊢
   grind
  ·split at h
   ·unfold DA at h⊢
    grind
   ·unfold FN at h⊢
    grind
   grind
  ·grind
theorem Wh{o:Oper}(h:Ct o=true)(a:∀t len ps,o.op=.buildSlice t (len+1) ps→False):BU o=true:=by
 unfold Ct at h
 rw[Yt]at h
 rcases h with h|h
 ·exact h
 ·exfalso
  unfold Tv at h
  split at h
  ·rename_i e;exact a _ _ _ e
  ·simp at h
theorem VX{o:Oper}(a:Ct o=true):∀b t x y u,o.op=.binOp b t x y u→Hv y=false:=by
 intro b t x y u h
 simp only[Ct,Tv,BU,h,F5,Jy,Yb,YF]at a
 exact a.2
theorem g7{o:Oper}{v:AV}(h:∀x∈o.op.operands,ρ x=ρ' x)(a:qV P l H o ρ v):qV P l H o ρ' v:=by
 obtain⟨q,op,type,pos,after,guard⟩:=o
 have d:∀i:Array Operand,(∀x∈i,ρ x=ρ' x)→i.toList.map ρ=i.toList.map ρ':=fun i k=>EV fun x e=>k x (by simpa using e)
 cases op<;>simp only[Op.operands]at h<;>simp only[qV,AS]at a⊢<;>try exact a
 case call c=>
  have k:c.args.toList.map ρ=c.args.toList.map ρ':=d _ fun x e=>h x (by simp[Call.operands,e])
  cases j:c.callee with
  |value f=>
   have z:ρ f=ρ' f:=h f (by simp[Call.operands,j])
   grind
  |invoke r m=>simp only[j]at a
  |builtin b=>
   simp only[j]at a⊢
   split at a
   ·rename_i x t y s w
    rw[←h x (by simp[Call.operands,j,SK s])]
    exact a
   ·grind
   grind
 case build t ps=>
  have:(ps.toList.map fun p=>(p.1,ρ p.2))=ps.toList.map fun p=>(p.1,ρ' p.2):=EV fun p u=>by
   grind
  rw[←this];exact a
 case buildSlice t n ps=>
  cases n with
  |zero=>exact a
  |succ n=>
   have:(ps.toList.map fun p=>(p.1,ρ p.2))=ps.toList.map fun p=>(p.1,ρ' p.2):=EV fun p u=>by
    grind
   simp only at a⊢
   rw[←this];exact a
 case makeFunc fn first g=>
  rw[←d first fun x e=>h x (by simp[e]),←d g fun x e=>h x (by simp[e])];exact a
 case slice t x lo hi A=>
  rw[←h x (by simp),show lo.map ρ'=lo.map ρ from by cases lo<;>simp_all,show hi.map ρ'=hi.map ρ from by cases hi<;>simp_all];exact a
 all_goals(first|(simp_all;done))
theorem iy{o:Oper}{s:Nat→AV}{K:St→Prop}(a:Ct o=true)(h:EE P l n o K ⟨s,H⟩):∃d v,o.dst=some d∧d<n∧qV P l H o (ev s) v∧K ⟨upd s d v,H⟩:=by
 have k:∃d,o.dst=some d:=by
  have:o.dst.isSome=true:=by
   unfold Ct BU at a
   rw[Yt,Yb,Yb]at a
   rcases a with h|h
   ·exact h.1
   ·exact h.1
  exact Y0.1 this
 obtain⟨d,k⟩:=k
 have plain:AS P H o.op (ev s) (B9 n o.dst K ⟨s,H⟩)→(∀v,AS P H o.op (ev s) (fun y=>y=v)→qV P l H o (ev s) v)→∃d v,o.dst=some d∧d<n∧qV P l H o (ev s) v∧K ⟨upd s d v,H⟩:=fun h m=>by
  obtain⟨v,p,b⟩:=wI (VX a) h
  rw[k]at b
  exact⟨d,v,k,b.1,m v p,b.2⟩
 unfold EE at h
 split at h
 ·rename_i x
  obtain⟨v,p,b⟩:=h
  rw[k]at b
  refine⟨d,v,k,b.1,?_,b.2⟩
  unfold qV
  rw[x]
  exact p
 ·rename_i c i
  replace a:BU o=true:=Wh a fun t n ps e=>by rw[i]at e;cases e
  split at h
  ·rename_i f u
   simp only[]at h
   split at h
   ·rename_i g first z A
    obtain⟨r,p,b⟩:=h
    rw[k]at b
    refine⟨d,r,k,b.1,?_,b.2⟩
    simp only[qV,i,u,A]
    exact p
   ·exact h.elim
  ·rename_i u
   refine plain ?_ ?_
   ·unfold Bg at h
    simp only[i]at h
    simp only[BU,i,Yb]at a
    split at h
    ·rename_i f w;exact absurd w (u f)
    ·rename_i q;rw[q]at a;simp at a
    ·rw[i];exact h
   ·intro v m
    unfold qV
    rw[i]at m⊢
    cases j:c.callee with
    |value f=>exact absurd j (u f)
    |_=>simpa[j]using m
 ·rename_i q i
  replace a:BU o=true:=Wh a fun t n ps e=>q _ _ _ e
  refine plain ?_ ?_
  ·unfold Bg at h
   split at h
   ·rename_i he;simp[BU,he]at a
   ·rename_i he;simp[BU,he]at a
   ·rename_i he;simp[BU,he]at a
   ·rename_i he;simp[BU,he]at a
   ·rename_i he;simp[BU,he]at a
   ·rename_i c he;exact absurd he (i c)
   ·exact h
  ·intro v m
   unfold qV
   split
   ·rename_i he;exact absurd he (q _ _ _)
   ·rename_i c he;exact absurd he (i c)
   ·exact m
theorem ym{o:Oper}{s:Nat→AV}{v:AV}{d:Nat}(q:Ct o=true)(b:o.dst=some d)(a:d<n)(h:qV P l H o (ev s) v):B4 P l n B o (fun E=>E=⟨upd s d v,H⟩) ⟨s,H⟩:=by
 unfold qV at h
 split at h
 ·rename_i t len parts k
  obtain⟨e,sz,z,G,i,j,u,w,x,y,A,rfl⟩:=h
  exact ft k b i j u w x y A a rfl
 ·rename_i c C
  split at h
  ·rename_i f p
   split at h
   ·rename_i g first m D
    refine im C p D (h.mono fun r F ⟨i,j⟩=>?_)
    subst i;subst j
    rw[b]
    exact⟨a,rfl⟩
   grind
  ·rename_i p
   exact Qk (hX (VX q) (by rw[b];exact⟨a,rfl⟩) h)
 ·exact Qk (hX (VX q) (by rw[b];exact⟨a,rfl⟩) h)
end
section
variable {P:Program} {l n:Nat} {B:Base} {H:Hp} {ops:Array Oper} {md:Region.Mode} {Q:(Nat→AV)→Prop}
def YA(P:Program)(l:Nat)(H:Hp)(ops:Array Oper)(o:Oper)(s:Nat→AV)(v:AV):Prop:=
 match o.guard with
 |none=>qV P l H o (ev s) v
 |some (i,b)=>match G0 s (ops.toList.map (·.dst)) i b with
  |some t=>(t=true→qV P l H o (ev s) v)∧(t=false→v=.tup [])
  |none=>False
theorem jP{o:Oper}{s:Nat→AV}{v u:AV}{d:Nat}(k:d∉o.looksAt ops)(h:YA P l H ops o (upd s d u) v):YA P l H ops o s v:=by
 have f:∀x∈o.op.operands,ev (upd s d u) x=ev s x:=fun x p=>by
  cases x with
  |tmp t=>
   have c:t≠d:=fun e=>k (by
    subst e
    exact Iq _ (List.mem_filterMap.2 ⟨.tmp t,by simpa using p,rfl⟩))
   simp[ev,upd,c]
  |_=>rfl
 unfold YA at*
 cases j:o.guard with
 |none=>simp only[j]at h⊢;exact g7 f h
 |some m=>
  obtain⟨i,b⟩:=m
  simp only[j]at h⊢
  have g:G0 (upd s d u) (ops.toList.map (·.dst)) i b=G0 s (ops.toList.map (·.dst)) i b:=by
   unfold G0
   simp only[YJ,Yx]
   cases n:ops[i]? with
   |none=>rfl
   |some q=>
    cases a:q.dst with
    |none=>simp[a]
    |some t=>
     have c:t≠d:=fun e=>k (by subst e;simp[Oper.looksAt,j,n,a])
     simp[a,upd,c]
  rw[g]at h
  split at h
  ·rename_i t r
   exact⟨fun e=>g7 f (h.1 e),h.2⟩
  ·exact h
theorem wF{o:Oper}{s:Nat→AV}{v u:AV}{d:Nat}(a:d∉o.looksAt ops)(h:YA P l H ops o s v):YA P l H ops o (upd s d u) v:=by
 refine jP (d:=d) (u:=s d) a ?_
 have:upd (upd s d u) d (s d)=s:=by funext j;unfold upd;split<;>simp_all
 grind
theorem tL{s:Nat→AV}{d e:Nat}{u v:AV}(h:d≠e):upd (upd s d u) e v=upd (upd s e v) d u:=by
 funext j
 unfold upd
 grind
end
def Kr(P:Program)(t:TypeId)(i:Nat):Option (Nat×Nat×Bool):=
 match P.underlying t with
 |some (.struct a)=>(a[i]?).bind fun f=>(C2 P f.type).map fun b=>(f.offset,P.cellsOf f.type,b)
 |_=>none
def LV(o:Option (Nat×Nat×Bool))(x:AV)(K:AV→Prop):Prop:=
 match o,x with
 |some (o,n,true),.agg cs=>n≠0∧K (.agg ((cs.drop o).take n))
 |some (o,_,false),.agg cs=>(match cs[o]? with|some c=>K c|none=>False)
 |_,_=>False
theorem sD{P:Program}{t:TypeId}{i:Nat}{x:AV}{K:AV→Prop}:D6 P t i x K=LV (Kr P t i) x K:=by
 unfold D6 Kr
 cases x with
 |agg cs=>
  cases j:P.underlying t with
  |none=>rfl
  |some d=>
   cases d with
   |struct a=>
    simp only
    cases g:a[i]? with
    |none=>rfl
    |some f=>
     simp only[Yc]
     cases c:C2 P f.type with
     |none=>rfl
     |some b=>cases b<;>rfl
   |_=>rfl
 |_=>
  have e:∀(o:Option (Nat×Nat×Bool)) (y:AV),(∀cs,y≠.agg cs)→LV o y K=False:=fun o y h=>by
   unfold LV
   grind
  grind
structure fins (P:Program) (l:Nat) (H:Hp) (rs:List ResultVar) (Post:AV→Hp→Prop) (e:Exit) (σ:St):Prop where
 he:e=.normal∨e=.ret
 hy:DQ P σ rs (fun xs=>∃y,Fz σ.H l (C9 xs) y∧Post y (G1 l σ.H H))
inductive Fit:D→Prop
 |int (k:IntKind) (n:Int):Fit (.int k n)
 |bool (b:Bool):Fit (.bool b)
 |str (s:ByteArray) (h:s.size<2147483648):Fit (.str s)
 |list (es:List (List D)) (hl:es.length<2147483648) (h:∀e∈es,∀x∈e,Fit x):Fit (.list es)
def IR(l:List D):Prop:=∀d∈l,Fit d
theorem Fit.len{α:Type}{e:α→List D}{xs:List α}(h:Fit (.list (xs.map e))):xs.length<2147483648:=by
 cases h with|list _ hl h=>simpa using hl
theorem Fit.mem{α:Type}{e:α→List D}{xs:List α}(h:Fit (.list (xs.map e))){x:α}(a:x∈xs):IR (e x):=by
 cases h with|list _ hl h=>exact h _ (Sw a)
theorem Fit.el{α:Type}{e:α→List D}{xs:List α}(h:Fit (.list (xs.map e))){i:Nat}{x:α}(a:xs[i]?=some x):IR (e x):=h.mem (Yn a)
theorem IR.at{l:List D}(h:IR l)(i:Nat){d:D}(hi:l[i]?=some d):Fit d:=h d (Yn hi)
theorem IR.sub{l:List D}(h:IR l)(i n:Nat){m:List D}(hi:(l.drop i).take n=m):IR m:=by
 subst hi
 exact fun d a=>h d (List.mem_of_mem_drop (SL a))
def nrm:AV→AV
 |.e0=>.d (.list [])
 |.agg xs=>.agg (xs.map fun x=>match x with|.e0=>.d (.list [])|x=>x)
 |x=>x
section
variable {P:Program} {l n:Nat} {B:Base} {H H':Hp} {K:St→Prop} {σ σ':St} {Q:Exit→St→Prop} {s:Nat→AV} {ds:List (Option Nat)} {d:Option Nat} {op:Op} {ty:TypeId} {ps:String} {af:Array Edge} {rest:List Oper}
 {g:Option (Nat×Bool)} {x y:Operand} {t:TypeId}
theorem Wf{a b:Code}(h:Bn P l n B a (bx (Bn P l n B b Q) Q) σ):Bn P l n B (.seq a b) Q σ:=xD fun _ c=>Gf h fun e σ' h=>by
 cases e<;>first|exact c σ' h|exact h
theorem P5{a:Int}{i:Nat}(h:a=(i:Int))(hi:i<9223372036854775808):IntKind.wrap .i64 a=(i:Int):=by
 subst h
 exact IntWalk.i64_in _ ⟨by omega,by omega⟩
theorem vj{f:FuncId}{fn:Func}(g:List ResultVar){c:Code}{xs:List AV}{a:AV→Hp→Prop}(j:P.funcs[f]?=some fn)(i:fn.body=some c)(b:(fn.name== "runtime.NumGoroutine")=false)
  (k:fn.ntmps=n) (m:fn.results.toList=g) (o:xs.length≤n) (h:∀B:Base,Bn P l n B c (fins P l H g a) ⟨args xs,CL l H⟩):Zca P f l xs H a:=by
 refine ui j i b k o fun B=>Gf (h B) fun e σ d=>?_
 unfold dm
 rw[m]
 exact⟨d.he,d.hy⟩
theorem Fz.data{xs:List D}:Fz H' l (.agg (xs.map .d)) (.agg (xs.map .d)):=
 .agg _ _ rfl fun i x y a hy=>by
  rw[a]at hy;cases hy
  rw[YJ]at a
  cases hi:xs[i]? with
  |none=>rw[hi]at a;cases a
  |some d=>rw[hi]at a;cases a;exact .keep _ rfl
theorem Fz.pure{xs:List AV}{ds:List D}(h:CZ xs=some ds):Fz H' l (.agg xs) (.agg (ds.map .d)):=
 .agg _ _ (by rw[YD];exact VQ h) fun i x y a hy=>by
  rw[YJ]at hy
  cases hi:ds[i]? with
  |none=>rw[hi]at hy;cases hy
  |some d=>
   rw[hi]at hy;cases hy
   have:=gY h a hi
   cases x<;>simp only[Fg]at this<;>cases this
   ·exact .keep _ rfl
   ·exact .e0
theorem Fz.d'{x:AV}{y:D}(h:x=.d y):Fz H' l x (.d y):=by subst h;exact .keep _ rfl
theorem Fz.two{x y x' e:AV}(f:Fz H' l x x')(hy:Fz H' l y e):Fz H' l (C9 [x,y]) (.tup [x',e]):=
 .tup _ _ rfl fun i a b c d=>by
  match i with
  |0=>cases c;cases d;exact f
  |1=>cases c;cases d;exact hy
  |i+2=>simp at c
theorem Fz.one{x x':AV}(a:Fz H' l x x'):Fz H' l (C9 [x]) x':=a
theorem RepA.nrm{S:Nat→Prop}{m:Mu}{w:World}{x:AV}{v:Value}(h:RepA w S H m l x v):RepA w S H m l (nrm x) v:=by
 cases x with
 |e0=>exact h.e0_d
 |agg xs=>
  cases h with
  |agg _ vs c a h=>
   refine .agg _ _ (by simpa using c) a (fun i y v hy b=>?_)
   rw[YJ]at hy
   cases hi:xs[i]? with
   |none=>rw[hi]at hy;cases hy
   |some x=>
    rw[hi]at hy
    simp only[YV,Yg]at hy
    subst hy
    have:=h i x v hi b
    split
    ·exact this.e0_d
    grind
 |_=>exact h
theorem Zca.nrm{f:FuncId}{xs:List AV}{a:AV→Hp→Prop}(h:Zca P f l (xs.map nrm) H a):Zca P f l xs H a:=
 ⟨h.1,fun m S w vs d c=>h.2 m S w vs d ⟨by simpa using c.1,fun i x v b e=>by
  rw[YJ]at b
  cases hi:xs[i]? with
  |none=>rw[hi]at b;cases b
  |some y=>
   rw[hi]at b
   simp only[YV,Yg]at b
   subst b
   exact(c.2 i y v hi e).nrm⟩⟩
end
def MQ:List Operand→List Nat
 |[]=>[]
 |.tmp t::r=>t::MQ r
 |_::r=>MQ r
def Kx:List (Option Nat)→Nat→Option Nat
 |[],_=>none
 |x::_,0=>x
 |_::r,i+1=>Kx r i
def Ex(ds:List (Option Nat))(o:Oper):List Nat:=
 MQ o.op.operands.toList++match o.guard with
  |some (g,_)=>(match Kx ds g with|some d=>[d]|none=>[])
  |none=>[]
def EA:List (Nat×Nat)→Nat→Option Nat
 |[],_=>none
 |(d,k)::r,t=>match Nat.beq d t with|true=>some k|false=>EA r t
def BL(o:Oper)(i:Nat):Bool:=o.after.toList.any fun e=>Region.binds .any e&&Nat.beq e.on i
def clear(o:Oper)(d:Nat):List (Nat×Nat)→Bool
 |[]=>true
 |(t,i)::r=>(match Nat.beq t d with|true=>BL o i|false=>true)&&clear o d r
theorem iv{o:Oper}{d i:Nat}:∀{l:List (Nat×Nat)},clear o d l=true→(d,i)∈l→BL o i=true
 |[],_,h=>by cases h
 |(t,j)::r,a,h=>by
  simp only[clear,Yb]at a
  rcases YK.1 h with h|h
  ·cases h
   have:=a.1
   rw[N6]at this
   exact this
  ·exact iv a.2 h
def Kh(ds:List (Option Nat)):Nat→List (Nat×Nat)→List (Nat×Nat)→List Oper→Bool
 |_,_,_,[]=>true
 |k,seen,looked,o::r=>
  (o.after.toList.all fun e=>!Region.binds .any e||Nat.ble (e.on+1) k)&&
  ((Ex ds o).all fun t=>match EA seen t with|some i=>BL o i|none=>true)&&
  match o.dst with
  |some d=>(EA seen d).isNone&&clear o d looked&&Kh ds (k+1) ((d,k)::seen) ((Ex ds o).map (·,k)++looked) r
  |none=>Kh ds (k+1) seen ((Ex ds o).map (·,k)++looked) r
def Rr:List Oper→Bool
 |[]=>true
 |o::r=>(match o.op with|.select _ _=>false|_=>true)&&Rr r
def Rq(ops:List Oper):Bool:=Rr ops&&Kh (ops.map (·.dst)) 0 [] [] ops
theorem s7(xs:List Operand):MQ xs=xs.filterMap fun|.tmp t=>some t|_=>none:=by
 induction xs with
 |nil=>rfl
 |cons x xs a=>cases x<;>simp[MQ,a]
theorem jb:∀(ds:List (Option Nat)) (i:Nat),Kx ds i=(ds[i]?).join
 |[],i=>by simp[Kx]
 |x::r,0=>by simp[Kx]
 |x::r,i+1=>by simp[Kx,jb r i]
theorem ij(ops:List Oper)(o:Oper):Ex (ops.map (·.dst)) o=o.looksAt ops.toArray:=by
 unfold Ex Oper.looksAt
 rw[s7]
 congr 1
 cases d:o.guard with
 |none=>rfl
 |some a=>
  obtain⟨g,b⟩:=a
  simp only
  rw[jb,YJ]
  simp only[Z5]
  cases ops[g]? with
  |none=>rfl
  |some c=>simp only[YV,Option.join_some,Yc];cases c.dst<;>rfl
structure FInv (ds:List (Option Nat)) (pre:List Oper) (seen:List (Nat×Nat)) (looked:List (Nat×Nat)):Prop where
 s1:∀d i,EA seen d=some i→∃o,pre[i]?=some o∧o.dst=some d
 s2:∀(i:Nat) (o:Oper) (d:Nat),pre[i]?=some o→o.dst=some d→EA seen d=some i
 lo:∀(i:Nat) (o:Oper),pre[i]?=some o→∀t∈Ex ds o,(t,i)∈looked
def QC(ds:List (Option Nat))(x y:Oper):Prop:=(∀d,x.dst=some d→d∉Ex ds y∧y.dst≠some d)∧(∀d,y.dst=some d→d∉Ex ds x)
theorem gb(ds:List (Option Nat)):∀(q pre:List Oper) (seen looked:List (Nat×Nat)),FInv ds pre seen looked→Kh ds pre.length seen looked q=true→
  ∀(j:Nat) (n:Oper),q[j]?=some n→(∀e∈n.after,Region.binds .any e=true→e.on<pre.length+j)∧
   ∀(i:Nat) (m:Oper),i<pre.length+j→(pre++q)[i]?=some m→BL n i=true∨QC ds m n
 |[],pre,seen,looked,u,h,j,n,A=>by simp at A
 |o::r,pre,seen,looked,u,h,j,n,A=>by
  simp only[Kh,Yb]at h
  obtain⟨⟨G,H⟩,s⟩:=h
  cases j with
  |zero=>
   simp only[Y5,Yg]at A
   subst A
   refine⟨fun e he D=>?_,fun i m hi f=>?_⟩
   ·have:=Yk.1 G e (by simpa using he)
    simp only[D,YR,F6]at this
    have:=Yf this
    omega
   ·rw[Yo (by omega)]at f
    by_cases z:BL o i=true
    ·exact .inl z
    ·right
     refine⟨fun d v=>⟨fun hm=>?_,fun g=>?_⟩,fun d v hm=>?_⟩
     ·have:=Yk.1 H d hm
      rw[u.s2 i m d f v]at this
      exact z this
     ·rw[g]at s
      simp only[Yb]at s
      have:=s.1.1
      rw[u.s2 i m d f v]at this
      cases this
     ·rw[v]at s
      simp only[Yb]at s
      exact z (iv s.1.2 (u.lo i m f d hm))
  |succ j=>
   simp only[Jw]at A
   have p:∀(c:List (Nat×Nat)),(∀d i,EA c d=some i→∃l,(pre++[o])[i]?=some l∧l.dst=some d)→(∀(i:Nat) (l:Oper) (d:Nat),(pre++[o])[i]?=some l→l.dst=some d→EA c d=some i)→
     FInv ds (pre++[o]) c ((Ex ds o).map (·,pre.length)++looked):=fun c a b=>⟨a,b,fun i l f t F=>by
    rcases Od i pre.length with k|heq|B
    ·rw[Yo k]at f;exact List.mem_append_right _ (u.lo i l f t F)
    ·subst heq;simp at f;subst f;exact Iq _ (YU.2 ⟨t,F,rfl⟩)
    ·rw[YI (by simp;omega)]at f;cases f⟩
   have fin:∀c,FInv ds (pre++[o]) c ((Ex ds o).map (·,pre.length)++looked)→Kh ds (pre.length+1) c ((Ex ds o).map (·,pre.length)++looked) r=true→_:=fun c C J=>
    gb ds r (pre++[o]) c ((Ex ds o).map (·,pre.length)++looked) C (by simpa using J) j n A
   have conv:(∀e∈n.after,Region.binds .any e=true→e.on<(pre++[o]).length+j)∧(∀(i:Nat) (m:Oper),i<(pre++[o]).length+j→(pre++[o]++r)[i]?=some m→BL n i=true∨QC ds m n)→
     (∀e∈n.after,Region.binds .any e=true→e.on<pre.length+(j+1))∧(∀(i:Nat) (m:Oper),i<pre.length+(j+1)→(pre++o::r)[i]?=some m→BL n i=true∨QC ds m n):=by
    rintro⟨a,b⟩
    simp only[Yw,EW,Hc,El,Hb,F4]at a b
    exact⟨fun e he D=>by have:=a e he D;omega,fun i m hi f=>b i m (by omega) f⟩
   split at s
   ·rename_i d v
    simp only[Yb]at s
    obtain⟨⟨E,K⟩,I⟩:=s
    have y:EA seen d=none:=by cases w:EA seen d with|none=>rfl|some i=>rw[w]at E;cases E
    refine conv (fin _ (p ((d,pre.length)::seen) (fun d' i w=>?_) (fun i l d' f g=>?_)) I)
    ·simp only[EA]at w
     split at w
     ·rename_i he;cases w;rw[←Ya he];exact⟨o,by simp,v⟩
     ·obtain⟨l,a,b⟩:=u.s1 d' i w
      refine⟨l,?_,b⟩
      rw[Yo];exact a
      rcases Yz i pre.length with k|x
      ·exact k
      ·rw[YI x]at a;cases a
    ·simp only[EA]
     rcases Od i pre.length with k|heq|B
     ·rw[Yo k]at f
      have:=u.s2 i l d' f g
      split
      ·rename_i he
       rw[←Ya he,y]at this;cases this
      ·exact this
     ·subst heq;simp at f;subst f;rw[v]at g;cases g;simp
     ·rw[YI (by simp;omega)]at f;cases f
   ·rename_i v
    refine conv (fin _ (p seen (fun d' i w=>?_) (fun i l d' f g=>?_)) s)
    ·obtain⟨l,a,b⟩:=u.s1 d' i w
     refine⟨l,?_,b⟩
     rw[Yo];exact a
     rcases Yz i pre.length with k|x
     ·exact k
     ·rw[YI x]at a;cases a
    ·rcases Od i pre.length with k|heq|B
     ·rw[Yo k]at f;exact u.s2 i l d' f g
     ·subst heq;simp at f;subst f;rw[v]at g;cases g
     ·rw[YI (by simp;omega)]at f;cases f
theorem ry{ops:List Oper}{x y:Oper}(h:QC (ops.map (·.dst)) x y):x.apart ops.toArray y=true:=by
 obtain⟨a,c⟩:=h
 rw[ij]at c
 have b:∀d,x.dst=some d→d∉y.looksAt ops.toArray∧y.dst≠some d:=fun d e=>by have:=a d e;rw[ij]at this;exact this
 unfold Oper.apart
 grind
theorem gf{ops:Array Oper}(l:∀(j:Nat) (b:Oper),ops[j]?=some b→∀e∈b.after,Region.binds .any e=true→e.on<j)
  (m:∀(i j:Nat) (n b:Oper),i<j→ops[i]?=some n→ops[j]?=some b→BL b i=true∨n.apart ops b=true):
  ∀(fuel k:Nat) (listed:Array Bool),fuel+k=ops.size→listed.size=ops.size→(∀j,j<ops.size→listed[j]?=some (decide (j<k)))→Region.lexFrom .any ops fuel k listed=true
 |0,k,listed,p,hs,hl=>by
  simp only[Region.lexFrom]
  rw[List.isEmpty_iff,Region.ready,List.filter_eq_nil_iff]
  intro i hi
  have hi:=N5.1 hi
  have:=hl i hi
  simp[Ys,this]
  omega
 |fuel+1,k,listed,p,hs,hl=>by
  have f:k<ops.size:=by omega
  have a:ops[k]?=some ops[k]:=Ym f
  simp only[Region.lexFrom,Yb]
  refine⟨⟨?_,?_⟩,gf l m fuel (k+1) _ (by omega) (by simp[hs]) (fun j c=>?_)⟩
  ·rw[List.contains_iff_mem]
   unfold Region.ready
   refine Jo.2 ⟨N5.2 f,?_⟩
   rw[Yb]
   refine⟨by simp[Ys,hl k f],?_⟩
   rw[a]
   simp only[YV,YE]
   rw[Array.all_eq_true_iff_forall_mem]
   intro e he
   by_cases o:Region.binds .any e=true
   ·have:=l k _ a e he o
    simp[Ys,hl e.on (by omega),this]
   grind
  ·unfold Region.free
   rw[a]
   simp only[Yk,N5]
   intro j c
   rw[Yt,Yt]
   rcases Od j k with g|heq|d
   ·left;right;simp[Ys,hl j c,g]
   ·grind
   ·right
    rw[Ym c]
    simp only
    rw[Yt]
    rcases m k j _ _ d a (Ym c)with h|h
    ·left
     unfold BL at h
     obtain⟨e,he,h⟩:=YT.1 h
     rw[←Array.any_toList]
     exact YT.2 ⟨e,he,by simpa using h⟩
    grind
  grind
theorem fW{ops:List Oper}(h:Rq ops=true):Region.lexB .any ops.toArray=true:=by
 unfold Rq at h
 rw[Yb]at h
 have g:∀(l:List Oper),Rr l=true→l.all (fun o=>match o.op with|.select ..=>false|_=>true)=true:=fun l=>by
  induction l with
  |nil=>intro _;rfl
  |cons o l p=>
   intro m
   simp only[Rr,Yb]at m
   grind
 have key:=gb (ops.map (·.dst)) ops [] [] [] ⟨fun d i k=>by simp[EA]at k,fun i o d e=>by simp at e,fun i o e=>by simp at e⟩ h.2
 simp only[Hc,YS,F4]at key
 unfold Region.lexB
 rw[Yb]
 refine⟨?_,gf (fun j f b=>(key j f (by simpa using b)).1) (fun i j n f c hi b=>?_) _ 0 _ rfl (by simp) (fun j b=>by simp at b⊢;simp[b])⟩
 ·unfold Region.noSelect
  grind
 ·rcases(key j f (by simpa using b)).2 i n c (by simpa using hi)with a|a
  ·grind
  ·exact .inr (ry a)
structure TI where
 agg:Bool:=false
 kin:Nat:=0
 siz:Nat:=1
 elm:Option (Nat×Nat):=none
 fld:List (Nat×Nat×Bool):=[]
 zer:Option (List AV):=none
 eqt:Option (List Nat):=none
 str:Bool:=false
 ik:Option IntKind:=none
 byt:Option Nat:=none
 mp:Option (Bool×List D):=none
def AV.flat:AV→Bool
 |.d _|.e0|.p _|.iptr _ _=>true
 |_=>false
structure TIok (P:Program) (t:TypeId) (i:TI):Prop where
 agg:C2 P t=some i.agg
 kin:kin P t=i.kin
 siz:P.cellsOf t=i.siz
 elm:∀e,i.elm=some e→Go.Eng.elm P t=some e
 fld:∀(j:Nat) (x:Nat×Nat×Bool),i.fld[j]?=some x→Go.Eng.fld P t j=some (x.1,x.2.1)∧Kr P t j=some x
 zer:∀z,i.zer=some z→Go.Eng.zer P t=some z
 eqt:∀z,i.eqt=some z→K7 P t=some z
 str:i.str=true→KY P t=true
 ik:∀z,i.ik=some z→P.underlying t=some (.int z)
 byt:∀z,i.byt=some z→P.bytesOf t≤z∧P.bytesOf t≠0
 flt:∀z,i.zer=some z→z.all AV.flat=true
 mp:∀z,i.mp=some z→KE P t=some z
def AX(P:Program)(T:Nat→Option TI):Prop:=∀t i,T t=some i→TIok P t i
inductive AT where
 |nil
 |go (r:AT)
 |av (x:AV) (r:AT)
 |cs (c:List AV) (r:AT)
 |ds (e:List D) (r:AT)
 |num (n:Int) (r:AT)
 |nat (n:Nat) (r:AT)
 |call (x:AV) (ks:List Ab) (r:AT)
 |callH (x:AV) (ks:List Ab) (hb:List (Ab×List AV)) (r:AT)
 |br (a b:AT)
 |frz (d:Nat) (js:List (Nat×List (List D))) (cs:List (Ab×Nat×List (List D))) (r:AT)
 |adc (k:Ab) (i d:Nat) (e:TypeId) (sz:Nat) (r:AT)
 |mv (d j:Nat) (r:AT)
 |ads (j d:Nat) (e:TypeId) (sz:Nat) (r:AT)
 |trim (k:Ab) (c:List AV) (r:AT)
 |reb (j d m:Nat) (c:List AV) (r:AT)
 |sep (r:AT)
 |hard (x:AV) (ks:List Ab) (hb:List (Ab×Blk)) (fr:List Ab) (r:AT)
 |ents (es:List (List D)) (r:AT)
 |all (a:AT) (f:Nat→AT)
 |fzm (d:Nat) (js:List Nat) (r:AT)
 |fzb (d:Nat) (js:List Nat) (r:AT)
 |rnm (d d' e i:Nat) (r:AT)
 |mvc (d q e i:Nat) (r:AT)
 |one (v:Bool) (r:AT)
structure Ren where
 κ:Ab→Ab
 γ:Ab→Nat
 θ:Nat→AV
 H0:Hp
 no:Ab→Prop
mutual
def ren(r:Ren):AV→AV
 |.ref k g off n=>.ref (r.κ k) (r.γ k+g) off n
 |.ptr k g off=>.ptr (r.κ k) (r.γ k+g) off
 |.mp k g=>.mp (r.κ k) (r.γ k+g)
 |.fn f xs ys=>match f with
  |.yield i=>r.θ i
  |f=>.fn f (Aj r xs) (Aj r ys)
 |.agg xs=>.agg (Aj r xs)
 |.tup xs=>.tup (Aj r xs)
 |.top=>.top
 |.d x=>.d x
 |.e0=>.e0
 |.p x=>.p x
 |.iptr cs off=>.iptr cs off
 |.ifc t ds a=>.ifc t ds a
def Aj(r:Ren):List AV→List AV
 |[]=>[]
 |x::xs=>ren r x::Aj r xs
end
def AA(r:Ren)(k:Ab)(b:Blk):Blk:=⟨r.γ k+b.g,true,b.e,b.sz,Aj r b.cells⟩
theorem Es{r:Ren}(xs:List AV):Aj r xs=xs.map (ren r):=by
 induction xs with
 |nil=>simp[Aj]
 |cons x xs a=>simp[Aj,a]
theorem Cb{r:Ren}(xs:List AV):(Aj r xs).length=xs.length:=by rw[Es,YD]
theorem Fy{r:Ren}(xs ys:List AV):Aj r (xs++ys)=Aj r xs++Aj r ys:=by simp[Es]
theorem D4{r:Ren}(xs:List AV)(n:Nat):(Aj r xs).drop n=Aj r (xs.drop n):=by simp[Es]
theorem Er{r:Ren}(xs:List AV)(n:Nat):(Aj r xs).take n=Aj r (xs.take n):=by simp[Es]
theorem Gh{r:Ren}(xs:List AV)(n:Nat):(Aj r xs)[n]?=(xs[n]?).map (ren r):=by simp[Es]
theorem Gn{r:Ren}(xs:List D):Aj r (xs.map .d)=xs.map .d:=by
 induction xs with
 |nil=>simp[Aj]
 |cons x xs a=>simp only[Y4,Aj,ren,a]
theorem vu{r:Ren}{xs:List AV}(h:xs≠[]):Aj r xs≠[]:=by cases xs<;>simp_all[Aj]
def C8(r:Ren)(H a:Hp):Prop:=∀k,(H k).live=true→a (r.κ k)=AA r k (H k)
def A6{α:Type}:List α→Nat→Option α
 |[],_=>none
 |x::_,0=>some x
 |_::xs,i+1=>A6 xs i
theorem BT{α:Type}:∀(xs:List α) (i:Nat),A6 xs i=xs[i]?
 |[],i=>by simp[A6]
 |x::xs,0=>by simp[A6]
 |x::xs,i+1=>by simp[A6,BT xs i]
def Hx{α:Type}:Nat→List α→Option (List α)
 |0,_=>some []
 |n+1,x::xs=>match Hx n xs with|some r=>some (x::r)|none=>none
 |_+1,[]=>none
theorem V9{α:Type}:∀(n:Nat) (xs r:List α),Hx n xs=some r→xs.take n=r∧n≤xs.length
 |0,xs,r,h=>by simp only[Hx,Yg]at h;subst h;simp
 |n+1,[],r,h=>by simp[Hx]at h
 |n+1,x::xs,r,h=>by
  simp only[Hx]at h
  split at h
  ·rename_i q a
   cases h
   obtain⟨b,c⟩:=V9 n xs q a
   grind
  ·cases h
def Bv(H:Hp)(k:Ab)(g:Nat):Bool:=Nat.beq g (H k).g&&(H k).live
theorem DE{H:Hp}{k:Ab}{g:Nat}(h:Bv H k g=true):g=(H k).g∧(H k).live=true:=by
 simp only[Bv,Yb]at h
 exact⟨Ya h.1,h.2⟩
theorem C8.at{r:Ren}{H a:Hp}(h:C8 r H a){k:Ab}{g:Nat}(hl:Bv H k g=true):r.γ k+g=(a (r.κ k)).g∧(a (r.κ k)).live=true∧(a (r.κ k)).e=(H k).e∧(a (r.κ k)).sz=(H k).sz∧(a (r.κ k)).cells=Aj r (H k).cells:=by
 obtain⟨b,c⟩:=DE hl
 rw[h k c]
 subst b
 exact⟨rfl,rfl,rfl,rfl,rfl⟩
def A4(g:Option Bool)(S:Prop):Prop:=
 match g with
 |none=>S
 |some b=>b=true→S
theorem Be{g:Option Bool}{S:Prop}(a:∀b,g=some b→b=true)(h:A4 g S):S:=by
 unfold A4 at h
 grind
def Dd(cs:List AV)(off:Nat)(c:List AV):Prop:=(cs.drop off).take c.length=c
def HU(a:List (List D))(n:Int)(e:List D):Prop:=0≤n∧a[n.toNat]?=some e
def KJ(n:Int)(len off sz o:Nat):Prop:=0≤n∧n<len∧(off+n.toNat)*sz=o
def HO(s:ByteArray)(n b:Int):Prop:=0≤n∧∃x:UInt8,s.data.toList[n.toNat]?=some x∧b=x.toNat
def B6(k:IntKind)(a r:Int):Prop:=k.wrap a=r
def Bm(a b:Int):Prop:=a=b
def NZ(a b:Int):Prop:=a≠b
def NY(a b:Int):Prop:=a≤b
def dp(a b:ByteArray):Prop:=a.size+b.size≤9223372036854775807
def CC(dflt:Nat)(o:Option AV)(l:Nat):Prop:=
 match o with
 |none=>l=dflt
 |some (.d (.int _ n))=>n=l
 |_=>False
def DY(l h n:Nat):Prop:=l≤h∧h≤n
def Ln(es:List (List D))(sz l h:Nat)(a:List (List D)):Prop:=(∀e,e∈es→e.length=sz)∧(es.drop l).take (h-l)=a
def Sr(off l h o n:Nat):Prop:=off+l=o∧h-l=n
def Xq(t:Bool)(a b:AV):AV:=
 match a,b with
 |.d (.bool x),.d (.bool y)=>.d (.bool (cond t x y))
 |a,b=>cond t a b
theorem ue(t:Bool)(a b:AV):Xq t a b=if t then a else b:=by
 unfold Xq
 grind
def Kg(i:TI)(H:Hp)(x:AV)(g:Option Bool)(a:AT)(K:AV→AT→Prop):Prop:=
 match x with
 |.iptr cs off=>match i.agg with
  |true=>match Nat.ble 1 i.siz,Hx i.siz (cs.drop off)with|true,some c=>K (.agg (c.map .d)) a|_,_=>False
  |false=>match A6 cs off with|some c=>K (.d c) a|none=>False
 |.ptr k q off=>match Bv H k q with
  |true=>match a with
   |.go r=>(match i.agg with
    |true=>match Nat.ble 1 i.siz,Hx i.siz ((H k).cells.drop off)with|true,some c=>K (.agg c) r|_,_=>False
    |false=>match A6 (H k).cells off with|some c=>K c r|none=>False)
   |.cs c r=>(match i.agg with
    |true=>match Nat.ble 1 i.siz,Nat.beq c.length i.siz with|true,true=>A4 g (Dd (H k).cells off c)∧K (.agg c) r|_,_=>False
    |false=>match c with|[x]=>A4 g (Dd (H k).cells off [x])∧K x r|_=>False)
   |_=>False
  |false=>False
 |_=>False
def PR(i:TI)(H:Hp)(f:Nat)(x:AV)(a:AT)(K:AV→AT→Prop):Prop:=
 match A6 i.fld f with
 |some (o,n,_)=>match Nat.ble 1 n with
  |true=>(match x with
   |.iptr cs off=>K (.iptr cs (off+o)) a
   |.ptr k q off=>match Bv H k q with|true=>K (.ptr k q (off+o)) a|false=>False
   |_=>False)
  |false=>False
 |none=>False
def QK(i:TI)(f:Nat)(x:AV)(a:AT)(K:AV→AT→Prop):Prop:=
 match A6 i.fld f,x with
 |some (o,n,true),.agg cs=>(match Nat.ble 1 n with|true=>K (.agg ((cs.drop o).take n)) a|false=>False)
 |some (o,_,false),.agg cs=>(match A6 cs o with|some c=>K c a|none=>False)
 |_,_=>False
def PP(i:TI)(H:Hp)(x j:AV)(g:Option Bool)(a:AT)(K:AV→AT→Prop):Prop:=
 match i.elm,j with
 |some (_,sz),.d (.int _ n)=>(match x,a with
  |.d (.list b),.ds e r=>(match Nat.beq e.length sz,Nat.ble 1 sz with|true,true=>A4 g (HU b n e)∧K (.iptr e 0) r|_,_=>False)
  |.ref k q off len,.nat o r=>(match Bv H k q,Nat.beq (H k).sz sz,Nat.ble 1 sz with|true,true,true=>A4 g (KJ n len off sz o)∧K (.ptr k q o) r|_,_,_=>False)
  |_,_=>False)
 |_,_=>False
def QM(i:TI)(x j:AV)(g:Option Bool)(a:AT)(K:AV→AT→Prop):Prop:=
 match x,j,a with
 |.d (.str s),.d (.int _ n),.num b r=>(match Nat.beq i.kin 2 with|true=>A4 g (HO s n b)∧K (.d (.int .u8 b)) r|false=>False)
 |_,_,_=>False
def OQ(op:BinOp)(k:IntKind)(x y:Int)(g:Option Bool)(a:AT)(K:AV→AT→Prop):Prop:=
 match op with
 |.eql=>K (.d (.bool (decide (x=y)))) a
 |.neq=>K (.d (.bool (!decide (x=y)))) a
 |.lss=>K (.d (.bool (decide (x<y)))) a
 |.leq=>K (.d (.bool (decide (x≤y)))) a
 |.gtr=>K (.d (.bool (decide (y<x)))) a
 |.geq=>K (.d (.bool (decide (y≤x)))) a
 |.add=>match a with|.num n r=>A4 g (B6 k (x+y) n)∧K (.d (.int k n)) r|_=>False
 |.sub=>match a with|.num n r=>A4 g (B6 k (x-y) n)∧K (.d (.int k n)) r|_=>False
 |.mul=>match a with|.num n r=>A4 g (B6 k (x*y) n)∧K (.d (.int k n)) r|_=>False
 |.quo=>match a with|.num n r=>A4 g (NZ y 0)∧A4 g (B6 k (x.tdiv y) n)∧K (.d (.int k n)) r|_=>False
 |.rem=>match a with|.num n r=>A4 g (NZ y 0)∧A4 g (Bm (x.tmod y) n)∧K (.d (.int k n)) r|_=>False
 |.shr=>match a with|.num n r=>A4 g (NY 0 y)∧A4 g (Bm (x.fdiv (2^(min y.toNat k.bits))) n)∧K (.d (.int k n)) r|_=>False
 |.shl=>match a with|.num n r=>A4 g (NY 0 y)∧A4 g (B6 k (x*2^(min y.toNat k.bits)) n)∧K (.d (.int k n)) r|_=>False
 |.and=>match a with|.num n r=>A4 g (Bm (CK k x y) n)∧K (.d (.int k n)) r|_=>False
 |.or=>match a with|.num n r=>A4 g (Bm (Fq k x y) n)∧K (.d (.int k n)) r|_=>False
 |.xor=>match a with|.num n r=>A4 g (Bm (Ks k x y) n)∧K (.d (.int k n)) r|_=>False
 |_=>False
def OZ(op:BinOp)(x y:ByteArray)(g:Option Bool)(a:AT)(K:AV→AT→Prop):Prop:=
 match op with
 |.add=>A4 g (dp x y)∧K (.d (.str (x++y))) a
 |.eql=>K (.d (.bool (decide (x=y)))) a
 |.neq=>K (.d (.bool (!decide (x=y)))) a
 |.lss=>K (.d (.bool (BM x y))) a
 |.leq=>K (.d (.bool (BM x y||decide (x=y)))) a
 |.gtr=>K (.d (.bool (!(BM x y||decide (x=y))))) a
 |.geq=>K (.d (.bool (!BM x y))) a
 |_=>False
def K2(H:Hp)(neg:Bool)(x:AV)(a:AT)(K:AV→AT→Prop):Prop:=
 match x with
 |.e0=>∀b,K (.d (.bool b)) a
 |.d (.list c)=>∀b,(c≠[]→b=neg)→K (.d (.bool b)) a
 |.ref k q _ n=>(match Bv H k q with|true=>∀b,(n≠0→b=neg)→K (.d (.bool b)) a|false=>False)
 |_=>False
def mw:IntKind→IntKind→Bool
 |.i8,.i8|.i16,.i16|.i32,.i32|.i64,.i64|.u8,.u8|.u16,.u16|.u32,.u32|.u64,.u64=>true
 |_,_=>false
theorem yg{a b:IntKind}(h:mw a b=true):a=b:=by cases a<;>cases b<;>first|rfl|cases h
def OL(i:TI)(H:Hp)(op:BinOp)(c:Bool)(x y:AV)(g:Option Bool)(a:AT)(K:AV→AT→Prop):Prop:=
 match x,y with
 |.d (.int k m),.d (.int k' n)=>(match mw k k' with|true=>OQ op k m n g a K|false=>False)
 |.d (.str m),.d (.str n)=>OZ op m n g a K
 |.d (.bool m),.d (.bool n)=>(match Nat.beq i.kin 1 with
  |true=>(match op with
   |.eql=>K (.d (.bool (m==n))) a
   |.neq=>K (.d (.bool (!(m==n)))) a
   |_=>False)
  |false=>False)
 |.agg xs,.agg ys=>(match i.eqt with
  |some ks=>(match DN ks xs ys with
   |some b=>(match op with
    |.eql=>K (.d (.bool b)) a
    |.neq=>K (.d (.bool (!b))) a
    |_=>False)
   |none=>False)
  |none=>False)
 |x,.e0=>(match c,Nat.beq i.kin 4 with
  |true,true=>(match op with
   |.eql=>K2 H false x a K
   |.neq=>K2 H true x a K
   |_=>False)
  |_,_=>False)
 |_,_=>False
def R1(op:UnOp)(x:AV)(g:Option Bool)(a:AT)(K:AV→AT→Prop):Prop:=
 match op,x with
 |.not,.d (.bool b)=>K (.d (.bool (!b))) a
 |.neg,.d (.int k n)=>(match a with|.num m r=>A4 g (B6 k (0-n) m)∧K (.d (.int k m)) r|_=>False)
 |.xor,.d (.int k n)=>(match a with|.num m r=>A4 g (Bm (HR k n) m)∧K (.d (.int k m)) r|_=>False)
 |_,_=>False
def Rb(s d:TI)(x:AV)(g:Option Bool)(a:AT)(K:AV→AT→Prop):Prop:=
 match x with
 |.d (.int _ n)=>(match s.ik,d.ik,a with|some _,some k,.num m r=>A4 g (B6 k n m)∧K (.d (.int k m)) r|_,_,_=>False)
 |.d (.str s')=>(match Nat.beq s.kin 2,Nat.beq d.kin 2 with|true,true=>K (.d (.str s')) a|_,_=>False)
 |_=>False
def Qy(i:TI)(H:Hp)(x:AV)(lo hi:Option AV)(e:Bool)(g:Option Bool)(a:AT)(K:AV→AT→Prop):Prop:=
 match e,a with
 |false,.nat l (.nat h r)=>(match x with
  |.d (.str s)=>(match Nat.beq i.kin 2 with|true=>A4 g (CC 0 lo l)∧A4 g (CC s.size hi h)∧A4 g (DY l h s.size)∧K (.d (.str (s.extract l h))) r|false=>False)
  |.d (.list es)=>(match i.elm,r with
   |some (_,sz),.av (.d (.list b)) r=>(match Nat.ble 1 sz with
    |true=>A4 g (CC 0 lo l)∧A4 g (CC es.length hi h)∧A4 g (DY l h es.length)∧A4 g (Ln es sz l h b)∧K (.d (.list b)) r
    |false=>False)
   |_,_=>False)
  |.ref k q off n=>(match i.elm,r,Bv H k q with
   |some (_,sz),.nat d (.nat c r),true=>(match Nat.ble 1 sz,Nat.beq (H k).sz sz with
    |true,true=>A4 g (CC 0 lo l)∧A4 g (CC n hi h)∧A4 g (DY l h n)∧A4 g (Sr off l h d c)∧K (.ref k q d c) r
    |_,_=>False)
   |_,_,_=>False)
  |_=>False)
 |_,_=>False
def Pd(i:TI)(H:Hp)(x:AV)(g:Option Bool)(a:AT)(K:AV→AT→Prop):Prop:=
 match x,a with
 |.d (.str s),.num n r=>(match Nat.beq i.kin 2 with|true=>A4 g (Bm s.size n)∧K (.d (.int .i64 n)) r|false=>False)
 |.d (.list es),.num n r=>(match Nat.beq i.kin 4 with|true=>A4 g (Bm es.length n)∧K (.d (.int .i64 n)) r|false=>False)
 |.e0,.num n r=>(match Nat.beq i.kin 4 with|true=>A4 g (Bm 0 n)∧K (.d (.int .i64 n)) r|false=>False)
 |.ref k q _ m,.num n r=>(match Nat.beq i.kin 4,Bv H k q with|true,true=>A4 g (Bm m n)∧K (.d (.int .i64 n)) r|_,_=>False)
 |_,_=>False
def WZ(H:Hp):AV→Option (Bool×List (List D))
 |.d (.map q a)=>some (q,a)
 |.mp k g=>match Bv H k g,(H k).e with
  |true,.m q a=>some (q,a)
  |_,_=>none
 |_=>none
def mr:Bool→Bool→Bool
 |true,true=>true
 |false,false=>true
 |_,_=>false
theorem yo{a b:Bool}(h:mr a b=true):a=b:=by cases a<;>cases b<;>first|rfl|cases h
def M1(a:List (List D))(s:ByteArray)(z vs:List D)(ok:Bool):Prop:=(Ez s a).isSome=ok∧(Ez s a).getD z=vs
def RB(i:TI)(H:Hp)(x y:AV)(b:Bool)(g:Option Bool)(a:AT)(K:AV→AT→Prop):Prop:=
 match i.mp,WZ H x,y,a with
 |some (q,z),some (d,c),.d (.str s),.av (.d (.bool ok)) (.ds vs r)=>(match mr q d with
  |true=>A4 g (M1 c s z vs ok)∧K (K9 b q vs ok) r
  |false=>False)
 |_,_,_,_=>False
def Zq(i:TI)(f:Nat):Option (Nat×Nat):=match A6 i.fld f with|some (o,n,_)=>some (o,n)|none=>none
def M9(i:TI)(cells:List AV):List (Nat×AV)→Option (List AV)
 |[]=>some cells
 |(f,v)::a=>match Zq i f,Cs v with
  |some (off,size),some vs=>match Nat.beq vs.length size,Nat.ble (off+vs.length) cells.length with
   |true,true=>M9 i (cells.take off++vs++cells.drop (off+vs.length)) a
   |_,_=>none
  |_,_=>none
def QA(i:TI)(parts:List (Nat×AV))(a:AT)(K:AV→AT→Prop):Prop:=
 match i.str,i.zer with
 |true,some z=>(match M9 i z parts with|some cs=>K (.agg cs) a|none=>False)
 |_,_=>False
def HJ:AV→Bool
 |.fn (.yield _) _ _=>false
 |_=>true
def tV(T:Nat→Option TI)(H:Hp)(op:Op)(ρ:Operand→AV)(g:Option Bool)(a:AT)(K:AV→AT→Prop):Prop:=
 match op with
 |.move x=>K (ρ x) a
 |.assign x=>K (ρ x) a
 |.pick c x y=>match ρ c with|.d (.bool t)=>K (Xq t (ρ x) (ρ y)) a|_=>False
 |.load t x=>match T t with|some i=>Kg i H (ρ x) g a K|none=>False
 |.fieldAddr t x f=>match T t with|some i=>PR i H f (ρ x) a K|none=>False
 |.field t x f=>match T t with|some i=>QK i f (ρ x) a K|none=>False
 |.indexAddr t x j=>match T t with|some i=>PP i H (ρ x) (ρ j) g a K|none=>False
 |.index t x j=>match T t with|some i=>QM i (ρ x) (ρ j) g a K|none=>False
 |.extract x j=>match ρ x with|.tup vs=>(match A6 vs j with|some y=>K y a|none=>False)|_=>False
 |.binOp o t x y _=>match T t with|some i=>OL i H o (Hv y) (ρ x) (ρ y) g a K|none=>False
 |.unOp o _ x=>R1 o (ρ x) g a K
 |.nilCheck x=>match ρ x with|.ptr k q off=>(match Bv H k q with|true=>K (.ptr k q off) a|false=>False)|.iptr cs off=>K (.iptr cs off) a|_=>False
 |.convert s d x=>match T s,T d with|some i,some j=>Rb i j (ρ x) g a K|_,_=>False
 |.makeInterface t x=>match T t with|some i=>(match i.str||i.elm.isSome,ρ x with|true,.agg xs=>(match KD xs with|some ds=>K (.ifc t ds true) a|none=>False)|true,.d x=>K (.ifc t [x] false) a|_,_=>False)|none=>False
 |.typeAssert x _ t ok=>match T t with|some i=>(match i.str||i.elm.isSome,ρ x with|true,.ifc u ds q=>(match Nat.beq u t,mZ q ds with|true,some v=>K (cond ok (.tup [v,.d (.bool true)]) v) a|_,_=>False)|_,_=>False)|none=>False
 |.makeFunc fn first b=>match fn with|.yield _=>False|fn=>K (.fn fn (first.toList.map ρ) (b.toList.map ρ)) a
 |.slice t x lo hi h=>match T t with|some i=>Qy i H (ρ x) (lo.map ρ) (hi.map ρ) h.isSome g a K|none=>False
 |.lookup t x y e=>match T t with|some i=>RB i H (ρ x) (ρ y) e g a K|none=>False
 |.build t parts=>match T t,parts.toList.all (fun p=>HJ (ρ p.2))with|some i,true=>QA i (parts.toList.map fun p=>(p.1,ρ p.2)) a K|_,_=>False
 |.call c=>match c.callee,c.args.toList,c.argTypes.toList with
  |.builtin .len,[x],[t]=>match T t with|some i=>Pd i H (ρ x) g a K|none=>False
  |.builtin .min,[x,y],_=>DA false (ρ x) (ρ y) (fun v=>K v a)
  |.builtin .max,[x,y],_=>DA true (ρ x) (ρ y) (fun v=>K v a)
  |.builtin .max,[x,y,z],_=>FN true (ρ x) (ρ y) (ρ z) (fun v=>K v a)
  |_,_,_=>False
 |_=>False
end Go.Eng
