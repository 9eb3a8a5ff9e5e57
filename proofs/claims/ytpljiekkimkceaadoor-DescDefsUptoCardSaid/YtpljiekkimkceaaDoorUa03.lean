import Derived.Test.YtpljiekkimkceaaDoorUa02
import Derived.KernelRfl
import Derived.Still
import Derived.IntWalk
import Derived.Test.YtpljiekkimkceaaDoorUa00
namespace Go.Eng
set_option linter.all false
open Go Go.RowKit
def args(xs:List AV):Nat→AV:=fun i=>(xs[i]?).getD .top
def Br(l:Nat)(H:Hp):Hp:=fun k=>if k.1≤l then H k else⟨0,false,0,0,[]⟩
def DH(l:Nat)(H' H:Hp):Hp:=fun k=>if k.1≤l then H' k else H k
def Ca(P:Program)(σ:St):List ResultVar→(List AV→Prop)→Prop
 |[],K=>K []
 |.tmp t::b,K=>Ca P σ b (fun xs=>K (σ.s t::xs))
 |.cell a t::b,K=>B4 P σ.H t (σ.s a) (fun x=>Ca P σ b (fun xs=>K (x::xs)))
def BG:List AV→AV
 |[x]=>x
 |xs=>.tup xs
inductive Fz (H:Hp) (l:Nat):AV→AV→Prop
 |keep (x:AV) (h:x.low l=true):Fz H l x x
 |e0:Fz H l .e0 (.d (.list []))
 |mp (k:Aa) (a:Bool) (es:List (List D)) (hk:k.1=l+1) (hl:(H k).live=true) (he:(H k).e=.m a es):Fz H l (.mp k (H k).g) (.d (.map a es))
 |ref (k:Aa) (off n:Nat) (es:List (List D)) (hk:k.1=l+1) (hl:(H k).live=true) (hn:es.length=n) (hz:(H k).sz≠0) (he:∀e,e∈es→e.length=(H k).sz)
   (hlen:(off+n)*(H k).sz≤(H k).cells.length)
   (h:∀(i j:Nat) (e:List D) (d:D) (x:AV),es[i]?=some e→e[j]?=some d→(H k).cells[(off+i)*(H k).sz+j]?=some x→Fz H l x (.d d)):
   Fz H l (.ref k (H k).g off n) (.d (.list es))
 |agg (xs ys:List AV) (hl:xs.length=ys.length) (h:∀(i:Nat) (x y:AV),xs[i]?=some x→ys[i]?=some y→Fz H l x y):Fz H l (.agg xs) (.agg ys)
 |tup (xs ys:List AV) (hl:xs.length=ys.length) (h:∀(i:Nat) (x y:AV),xs[i]?=some x→ys[i]?=some y→Fz H l x y):Fz H l (.tup xs) (.tup ys)
def P9(P:Program)(fn:Func)(l:Nat)(H:Hp)(a:AV→Hp→Prop):Exit→St→Prop:=fun e σ=>
 (e=.normal∨e=.ret)∧Ca P σ fn.results.toList (fun xs=>∃y,Fz σ.H l (BG xs) y∧a y (DH l σ.H H))
section
variable {P:Program} {l n:Nat} {B:Base} {H H':Hp} {m m':Mu} {S S':Nat→Prop} {w w':World} {s:Nat→AV} {a:Act} {K:St→Prop} {o:Oper} {σ:St} {Q:Exit→St→Prop}
theorem RC{t:TypeId}{v b:Value}(h:(Instr.loadAt t v).run P w=.ok b w):(do loadVar t (←asAddr v):Sem Value).run P w=.ok b w:=by
 cases v<;>try (simp[Instr.loadAt,Instr.sureAddr]at h;done)
 rename_i p
 cases p with
 |none=>simp[Instr.loadAt,Instr.sureAddr]at h
 |some a=>simpa[Instr.loadAt,Instr.sureAddr,asAddr]using h
def Hc(tmps:Array Value):ResultVar→Sem Value
 |.tmp t=>pure (tmps.getD t undef)
 |.cell p t=>do loadVar t (←asAddr (tmps.getD p undef))
theorem J3(n:Ok (l+1) H m S w)(c:Bf (l+1) s H m S a w):∀(rs:List ResultVar) (K:List AV→Prop),Ca P ⟨s,H⟩ rs K→
  ∃(vs:List Value) (xs:List AV),(rs.mapM (Hc a.tmps)).run P w=.ok vs w∧xs.length=vs.length∧
   (∀(i:Nat) (x:AV) (v:Value),xs[i]?=some x→vs[i]?=some v→RepA w S H m (l+1) x v)∧K xs
 |[],K,h=>⟨[],[],by simp,rfl,fun i x v h=>by simp at h,h⟩
 |.tmp t::b,K,h=>by
  obtain⟨vs,xs,g,j,o,k⟩:=J3 n c b _ h
  refine⟨a.tmps.getD t undef::vs,s t::xs,by simp only[Hx,Hc,Sem.run_bind,Sem.run_pure,Result.andThen_ok,g],by simp[j],fun i x v f d=>?_,k⟩
  cases i with
  |zero=>simp at f d;subst f;subst d;simpa using c t
  |succ i=>exact o i x v (by simpa using f) (by simpa using d)
 |.cell p t::b,K,h=>by
  obtain⟨v0,q,g1,r,g3⟩:=MP h (c p) n
  obtain⟨vs,xs,g,j,o,k⟩:=J3 n c b _ g3
  refine⟨v0::vs,q::xs,?_,by simp[j],fun i x v f d=>?_,k⟩
  ·have:=RC g1
   have e:(Hc a.tmps (.cell p t)).run P w=.ok v0 w:=this
   simp only[Hx,Sem.run_bind,e,Sem.run_pure,Result.andThen_ok,g]
  grind
def Fr(l:Nat)(H:Hp)(m:Mu)(S:Nat→Prop):Nat→Prop:=fun b=>S b∨∃k:Aa,k.1=l+1∧(H k).live=true∧((m k).cap≠0∨(H k).e.isO=true)∧b=(m k).b
theorem Ok.fin(h:Ok (l+1) H m S w):Ok l H m (Fr l H m S) w∧Ext l H m S w H m (Fr l H m S) w:=by
 have n:Ext (l+1) H m S w H m (Fr l H m S) w:=⟨fun _ h=>.inl h,fun _ _=>rfl,fun _ _=>Yc _,fun _ _ _ h=>⟨h,rfl,rfl⟩,rfl,rfl,rfl,Yc _⟩
 refine⟨⟨fun b c=>?_,fun q u=>h.empty q (by omega),fun q u hl g=>?_,fun q A u z=>h.inj q A (by omega) (by omega),fun q u hl g=>?_,
  ⟨fun k p j=>(h.mp.o k (by omega) j).mono (fun _ h=>.inl h) (fun _ _=>rfl) (fun _=>rfl),fun k p j he=>?_,fun k k' p s=>h.mp.i k k' (by omega) (by omega)⟩⟩,n.mono (by omega)⟩
 ·rcases c with c|⟨k,p,hl,g,rfl⟩
  ·exact h.sub b c
  ·rcases g with g|g
   ·obtain⟨C,c,_⟩:=h.blk k (by omega) hl g
    grind
   ·obtain⟨o,c,_⟩:=(h.mp.o k (by omega) hl).at g
    grind
 ·rintro(hs|⟨k,p,f,a,e⟩)
  ·exact h.fresh q (by omega) hl g hs
  ·rcases a with a|a
   ·have:=h.inj q k (by omega) (by omega) hl f g a e
    grind
   ·obtain⟨o,c,r⟩:=(h.mp.o k (by omega) f).at a
    obtain⟨C,d,_⟩:=h.blk q (by omega) hl g
    rw[e,c]at d;cases d;cases r
 ·obtain⟨C,c,hs,t,y⟩:=h.blk q (by omega) hl g
  exact⟨C,c,hs,t,fun i x v hi j=>⟨(y i x v hi j).1,(y i x v hi j).2.ext n (by omega)⟩⟩
 ·refine⟨(h.mp.c k (by omega) j he).1,?_⟩
  rintro(hs|⟨k',s,f,a,e⟩)
  ·exact(h.mp.c k (by omega) j he).2 hs
  ·rcases a with a|a
   ·obtain⟨o,c,r⟩:=(h.mp.o k (by omega) j).at he
    obtain⟨C,d,_⟩:=h.blk k' (by omega) f a
    rw[←e,c]at d;cases d;cases r
   ·have:=h.mp.i k k' (by omega) (by omega) j f he a e
    grind
theorem Fz.sound{x y:AV}(h:Fz H l x y)(R:Ok (l+1) H m S w):∀{v:Value},RepA w S H m (l+1) x v→RepA w (Fr l H m S) H m l y v:=by
 have u:Ext (l+1) H m S w H m (Fr l H m S) w:=⟨fun _ h=>.inl h,fun _ _=>rfl,fun _ _=>Yc _,fun _ _ _ h=>⟨h,rfl,rfl⟩,rfl,rfl,rfl,Yc _⟩
 induction h with
 |keep x h=>exact fun b=>(b.ext u (Yc _)).low h
 |e0=>
  intro v b
  cases b with
  |e0 O=>exact(RepA.e0 O).e0_d
 |mp k a es J hl he=>
  intro v b
  generalize G:(H k).g=g at b
  cases b with
  |mpD _ _ _ q I t p=>rw[t G.symm]at hl;cases hl
  |mpL _ q r=>
   have V:=R.mp.o k (by omega) hl
   rw[he]at V
   obtain⟨ents,B,p,P⟩:=V
   exact .d _ _ (.ofM (.inr ⟨k,J,hl,.inr (by rw[he];rfl),rfl⟩) p (P.mono (fun _ h=>.inl h) (fun _ _=>rfl)))
 |ref k off n es J hl K hz he o h z=>
  intro v b
  generalize G:(H k).g=g at b
  cases b with
  |refD _ _ _ _ _ q I t p=>rw[t G.symm]at hl;cases hl
  |refL _ _ _ O q r U T=>
   by_cases L:n=0
   ·subst L
    have:es=[]:=YL K
    subst this
    cases O with
    |none=>
     have e:(m k).cap-off=0:=by
      rcases Yq off (m k).cap with h|h
      ·have:=T h;cases this
      ·omega
     rw[e]
     exact .d _ _ .nil
    |some ad=>exact .d _ _ (.list [] ad 0 _ (fun _ _=>.bool true) (fun h=>absurd rfl h) (CT _) (fun _ h=>by cases h) (fun i j e x h=>by simp at h) (fun i j e x h=>by simp at h))
   ·have M:=T (by omega)
    subst M
    obtain⟨F,C,p,P,h3,Q⟩:=R.row (k:=k) (by omega) hl (by
     intro e
     rw[e,YF]at o
     have:=HD (show 0<n by omega) (show 0<(H k).sz by omega)
     simp at o
     omega)
    have s:∀(i j:Nat) (e:List D) (d:D),es[i]?=some e→e[j]?=some d→(off+i)*(H k).sz+j<(H k).cells.length:=by
     intro i j e d hi f
     have X:i<n:=by
      rw[←K]
      rcases Yq i es.length with h|h
      ·exact h
      ·rw[Yx h]at hi;cases hi
     have Y:j<(H k).sz:=by
      rw[←he e (Yp hi)]
      rcases Yq j e.length with h|h
      ·exact h
      ·rw[Yx h]at f;cases f
     have:(off+i+1)*(H k).sz≤(off+n)*(H k).sz:=YT _ (by omega)
     rw[YF (off+i)]at this
     omega
    have:=RepD.list (w:=w) (S:=Fr l H m S) es ⟨(m k).b,(m k).o+off*(H k).sz,none⟩ (H k).sz ((m k).cap-off) (fun i j=>(C[(m k).o+((off+i)*(H k).sz+j)]?).getD undef)
     (fun _=>.inr ⟨k,J,hl,.inl F,rfl⟩) (by omega) he
     (fun i j e d hi f=>by
      obtain⟨v,A,_,_⟩:=Q _ _ (Yb (s i j e d hi f))
      rw[Addr.add_lit,Do p,A]
      rw[show(m k).o+off*(H k).sz+(i*(H k).sz+j)=(m k).o+((off+i)*(H k).sz+j)from by rw[YF];omega,A]
      rfl)
     (fun i j e d hi f=>by
      obtain⟨v,A,Z,W⟩:=Q _ _ (Yb (s i j e d hi f))
      rw[A]
      have:=z i j e d _ hi f (Yb (s i j e d hi f)) W
      cases this with
      |d _ _ t=>exact t)
    rw[K]at this
    exact .d _ _ this
 |agg xs ys hl h z=>
  intro v b
  cases b with
  |agg _ vs r p E=>
   refine .agg _ _ (by omega) p (fun i y v hy N=>?_)
   have c:i<xs.length:=by
    rw[hl]
    rcases Yq i ys.length with h|h
    ·exact h
    ·rw[Yx h]at hy;cases hy
   exact z i _ y (Yb c) hy (E i _ v (Yb c) N)
 |tup xs ys hl h z=>
  intro v b
  cases b with
  |tup _ vs r E=>
   refine .tup _ _ (by omega) (fun i y v hy N=>?_)
   have c:i<xs.length:=by
    rw[hl]
    rcases Yq i ys.length with h|h
    ·exact h
    ·rw[Yx h]at hy;cases hy
   exact z i _ y (Yb c) hy (E i _ v (Yb c) N)
theorem QU{fn:Func}{KK:List AV→Prop}(j:Ok (l+1) H m S w)(k:Bf (l+1) s H m S a w)(h:Ca P ⟨s,H⟩ fn.results.toList KK):
  ∃v xs,(results fn a.tmps).run P w=.ok v w∧RepA w S H m (l+1) (BG xs) v∧KK xs:=by
 obtain⟨vs,xs,d,c,b,g⟩:=J3 j k _ _ h
 have o:∀f:ResultVar→Sem Value,(∀r,f r=Hc a.tmps r)→(fn.results.mapM f).run P w=.ok vs.toArray w:=by
  intro f n
  have:f=Hc a.tmps:=funext n
  subst this
  rw[Mh]
  simp[d]
 refine⟨if h:vs.toArray.size=1 then vs.toArray[0]else .tuple vs.toArray,xs,?_,?_,g⟩
 ·unfold results
  simp only[Sem.run_bind]
  rw[o _ (fun r=>by cases r<;>rfl)]
  simp
 ·match xs,vs,c,b with
  |[x],[v],_,b=>exact b 0 x v rfl rfl
  |[],[],_,_=>exact .tup _ _ rfl (fun i x v h=>by simp[BG]at h)
  |x::x'::xs,v::t::vs,c,b=>
   have e:¬((v::t::vs).toArray.size=1):=by simp
   rw[dif_neg e]
   exact .tup _ _ (by simpa using c) (fun i x v q p=>b i x v q (by simpa using p))
theorem Tm{P:Program}{f:FuncId}{fn:Func}{c:Code}{n l:Nat}{xs:List AV}{H:Hp}{s:AV→Hp→Prop}(hf:P.funcs[f]?=some fn)(hb:fn.body=some c)(G:(fn.name== "runtime.NumGoroutine")=false)
  (hn:fn.ntmps=n) (hx:xs.length≤n) (h:∀B:Base,AI P l n B c (P9 P fn l H s) ⟨args xs,Br l H⟩):ZaR P f l xs H s:=by
 refine⟨⟨fn,c,hf,hb,G⟩,fun m S w vs K j=>?_⟩
 have a:∀k:Aa,k.1≤l→Br l H k=H k:=fun k g=>by unfold Br;rw[Yt g]
 have hdead:∀k:Aa,¬k.1≤l→(Br l H k).live=false:=fun k g=>by unfold Br;rw[Yy g]
 have u:∀k:Aa,(Br l H k).live=true→k.1≤l:=fun k hl=>by
  grind
 have X:Ok (l+1) (Br l H) m S w:=by
  refine⟨K.sub,fun q d hl o=>?_,fun q d hl o=>?_,fun q M d I hl t o J heq=>?_,fun q d hl o=>?_,
   K.mp.stepL (fun q _ hl _=>by have:=u q hl;rw[a q this]at hl⊢;exact⟨this,hl,rfl,rfl⟩) (fun _ h=>h) (fun _ h=>.inl h) (fun _ _=>rfl) (fun _ _ h _=>h)⟩
  ·have:=u q hl;rw[a q this]at hl⊢;exact K.empty q this hl o
  ·have:=u q hl;rw[a q this]at hl;exact K.fresh q this hl o
  ·have e:=u q hl
   have e':=u M t
   rw[a q e]at hl;rw[a M e']at t
   exact K.inj q M e e' hl t o J heq
  ·have e:=u q hl
   rw[a q e]at hl⊢
   obtain⟨C,U,V,W,T⟩:=K.blk q e hl o
   exact⟨C,U,V,W,fun i x v hi O=>⟨(T i x v hi O).1,(T i x v hi O).2.agree (fun k g=>a k (by omega)) (fun _ _=>rfl)⟩⟩
 have hE:Ext l H m S w (Br l H) m S w:=⟨fun _ h=>h,fun _ _=>rfl,fun k g=>by rw[a k g];exact Yc _,fun k g _ hl=>by rw[a k g]at hl⊢;exact⟨hl,rfl,rfl⟩,rfl,rfl,rfl,Yc _⟩
 have hR:R l n ⟨H,m,S,w⟩ ⟨args xs,Br l H⟩ {tmps:=vs++Array.replicate (fn.ntmps-vs.size) undef,defers:=[] } w:=by
  refine⟨m,S,X,by simp[hn];rw[←j.1];omega,rfl,fun i=>?_,hE⟩
  simp only[args]
  cases hi:xs[i]? with
  |none=>exact .top _
  |some x=>
   have hlt:i<xs.length:=by
    grind
   have D:i<vs.size:=by rw[←j.1];exact hlt
   rw[Yv,Y1 D,Yi D]
   exact((j.2 i x _ hi (Yi D)).agree (fun k g=>a k g) (fun _ _=>rfl)).lvl (Nat.le_succ l)
 refine calls_of_wp hf hb (wp_mono (h ⟨H,m,S,w⟩ _ w hR) fun e a' w' ⟨σ',d,Y⟩=>?_)
 obtain⟨s',H'⟩:=σ'
 obtain⟨m',S',A,hn',hd',Z,N⟩:=Y.un
 have done:Ca P ⟨s',H'⟩ fn.results.toList (fun xs=>∃y,Fz H' l (BG xs) y∧s y (DH l H' H))→a'.defers=[]∧∃v,(results fn a'.tmps).run P w'=.ok v w'∧
   (∃r Q p E z,Ending.returned v=.returned Q∧s r p∧Ok l p E z w'∧RepA w' z p E l r Q∧Ext l H m S w p E z w'):=by
  intro hr
  obtain⟨v,xs,U,V,y,W,T⟩:=QU A Z hr
  obtain⟨L,k2⟩:=A.fin
  have b:∀k:Aa,k.1≤l→DH l H' H k=H' k:=fun k g=>by unfold DH;rw[Yt g]
  refine⟨hd',v,U,y,v,DH l H' H,m',_,rfl,T,?_,(W.sound A V).agree b (fun _ _=>rfl),?_⟩
  ·refine⟨L.sub,fun q d hl o=>?_,fun q d hl o=>?_,fun q M d I hl t o J heq=>?_,fun q d hl o=>?_,
    L.mp.step (Yc _) (fun q d hl _=>by rw[b q d]at hl⊢;exact⟨hl,rfl,rfl⟩) (fun _ h=>h) (fun _ h=>.inl h) (fun _ _=>rfl) (fun _ _ h _=>h)⟩
   ·rw[b q d]at hl⊢;exact L.empty q d hl o
   ·rw[b q d]at hl;exact L.fresh q d hl o
   ·rw[b q d]at hl;rw[b M I]at t;exact L.inj q M d I hl t o J heq
   ·rw[b q d]at hl⊢
    obtain⟨C,g1,g2,g3,g4⟩:=L.blk q d hl o
    exact⟨C,g1,g2,g3,fun i x v hi O=>⟨(g4 i x v hi O).1,(g4 i x v hi O).2.agree (fun k g=>b k (by omega)) (fun _ _=>rfl)⟩⟩
  ·have F:=Ext.trans (show Ext l H m S w H' m' S' w' from N) k2
   exact⟨F.s,F.blk,fun k g=>by rw[b k g];exact F.g k g,fun k g hg hl=>by rw[b k g]at hg hl⊢;exact F.live k g hg hl,F.os,F.tape,F.output,F.size⟩
 rcases d.1 with rfl|rfl
 ·exact done d.2
 ·exact done d.2
end
end Go.Eng
namespace Go.Eng
set_option linter.all false
open Go Go.RowKit
section
variable {P:Program} {l n:Nat} {ds:List (Option Nat)} {ops rest:List Oper} {K:St→Prop} {s:Nat→AV} {H:Hp} {d:Option Nat} {op:Op} {ty:TypeId} {ps:String} {af:Array Edge} {g:Option (Nat×Bool)}
variable {x y:Operand} {t:TypeId}
theorem KY{l:Nat}{H:Hp}{k:Aa}(h:k.1≤l):Br l H k=H k:=by unfold Br;rw[Yt h]
theorem TH{l:Nat}{H:Hp}{i:Nat}:Br l H (l+1,i)=⟨0,false,0,0,[]⟩:=by unfold Br;rw[Yy (by simp)]
end
def AZ(o:Oper):Bool:=o.dst.isSome&&match o.op with
 |.call c=>match c.callee with
  |.value _=>true
  |.builtin .len|.builtin .min|.builtin .max=>true
  |_=>false
 |.binOp _ _ _ y _=>!DO y
 |.alloc _|.box _ _|.store _ _ _|.buildSlice _ _ _|.makeSlice _ _ _|.makeMap _ _|.range _ _|.next _ _|.entry _=>false
 |_=>true
def Ls(o:Oper):Bool:=match o.op with
 |.buildSlice _ (_+1) _=>true
 |_=>false
def Bv(o:Oper):Bool:=AZ o||(o.dst.isSome&&Ls o)
def P3(P:Program)(t:TypeId)(len:Nat)(ps:List (Nat×AV))(v:AV):Prop:=
 ∃e sz z es,elm P t=some (e,sz)∧sz≠0∧(len+1)*sz≤16777216∧zer P e=some z∧z.length=sz∧Cu sz 0 ps=some es∧es.length=len+1∧v=.d (.list es)
def qV(P:Program)(l:Nat)(H:Hp)(o:Oper)(ρ:Operand→AV)(v:AV):Prop:=
 match o.op with
 |.buildSlice t (len+1) parts=>P3 P t len (parts.toList.map fun p=>(p.1,ρ p.2)) v
 |.call c=>match c.callee with
  |.value f=>match ρ f with
   |.fn (.func g) first a=>ZaR P g (l+1) (first++c.args.toList.map ρ++a) H (fun y b=>y=v∧b=H)
   |_=>False
  |_=>Aq P H o.op ρ (fun y=>y=v)
 |_=>Aq P H o.op ρ (fun y=>y=v)
def Ct(P:Program)(l n:Nat)(o:Oper)(K:St→Prop)(σ:St):Prop:=
 match o.op with
 |.buildSlice t (len+1) parts=>∃v,P3 P t len (parts.toList.map fun p=>(p.1,ev σ.s p.2)) v∧A3 n o.dst K σ v
 |.call c=>match c.callee with
  |.value f=>match ev σ.s f with
   |.fn (.func g) first a=>∃r,ZaR P g (l+1) (first++c.args.toList.map (ev σ.s)++a) σ.H (fun y b=>y=r∧b=σ.H)∧A3 n o.dst K σ r
   |_=>False
  |_=>AF P l n o K σ
 |_=>AF P l n o K σ
def BQ(P:Program)(l n:Nat)(ds:List (Option Nat)):List Oper→(St→Prop)→St→Prop
 |[],K,σ=>K σ
 |o::a,K,σ=>match o.guard with
  |none=>Ct P l n o (BQ P l n ds a K) σ
  |some (i,b)=>match DE σ.s ds i b with
   |some t=>(t=true→Ct P l n o (BQ P l n ds a K) σ)∧(t=false→match o.dst with|some d=>d<n∧BQ P l n ds a K ⟨upd σ.s d (.tup []),σ.H⟩|none=>False)
   |none=>False
section
variable {P:Program} {l n:Nat} {B:Base} {H:Hp} {K K':AV→Prop} {t:TypeId} {x y:AV} {ρ ρ':Operand→AV}
theorem M9{op:BinOp}{k:IntKind}{a b:Int}(h:∀v,K v→K' v)(c:CL op k a b K):CL op k a b K':=by
 cases op<;>simp only[CL]at c⊢<;>first|exact h _ c|exact⟨c.1,h _ c.2⟩|exact c
theorem Nr{op:BinOp}{a b:ByteArray}(h:∀v,K v→K' v)(c:CK op a b K):CK op a b K':=by
 cases op<;>simp only[CK]at c⊢<;>first|exact h _ c|exact⟨c.1,h _ c.2⟩|exact c
theorem SL{op:BinOp}{k:IntKind}{a b:Int}(c:CL op k a b K):∃v,CL op k a b (fun y=>y=v)∧K v:=by
 cases op<;>simp only[CL]at c⊢<;>first|exact⟨_,rfl,c⟩|exact⟨_,⟨c.1,rfl⟩,c.2⟩|exact c.elim
theorem S8{op:BinOp}{a b:ByteArray}(c:CK op a b K):∃v,CK op a b (fun y=>y=v)∧K v:=by
 cases op<;>simp only[CK]at c⊢<;>first|exact⟨_,rfl,c⟩|exact⟨_,⟨c.1,rfl⟩,c.2⟩|exact c.elim
theorem Sr(h:B4 P H t x K):∃v,B4 P H t x (fun y=>y=v)∧K v:=by
 unfold B4 at h⊢
 split at h
 ·grind
 ·grind
 grind
theorem QO{i:Nat}(h:Cg P H t i x K):∃v,Cg P H t i x (fun y=>y=v)∧K v:=by
 unfold Cg at h⊢
 grind
theorem RF{i:Nat}(h:Ch P t i x K):∃v,Ch P t i x (fun y=>y=v)∧K v:=by
 unfold Ch at h⊢
 split at h
 ·split at h
  ·grind
  grind
 grind
theorem QM(h:BX P H t x y K):∃v,BX P H t x y (fun y=>y=v)∧K v:=by
 unfold BX at h⊢
 grind
theorem RH(h:Cp P t x y K):∃v,Cp P t x y (fun y=>y=v)∧K v:=by
 unfold Cp at h⊢
 grind
theorem TB{op:BinOp}{xs ys:List AV}(h:C8 P op t xs ys K):∃v,C8 P op t xs ys (fun y=>y=v)∧K v:=by
 unfold C8 at h⊢
 split at h
 ·grind
 grind
theorem SH{op:BinOp}(h:A9 P H op t false x y K):∃v,A9 P H op t false x y (fun y=>y=v)∧K v:=by
 unfold A9 at h⊢
 split at h
 ·obtain⟨v,a,b⟩:=SL h.2;exact⟨v,⟨h.1,a⟩,b⟩
 ·exact S8 h
 ·grind
 ·exact TB h
 ·cases h.1
 grind
theorem TJ{op:UnOp}(h:Cd op x K):∃v,Cd op x (fun y=>y=v)∧K v:=by
 unfold Cd at h⊢
 grind
theorem S2{u:TypeId}(h:Ci P t u x K):∃v,Ci P t u x (fun y=>y=v)∧K v:=by
 unfold Ci at h⊢
 grind
theorem R2{lo hi:Option AV}{a:Bool}(h:B3 P H t x lo hi a K):∃v,B3 P H t x lo hi a (fun y=>y=v)∧K v:=by
 unfold B3 at h⊢
 grind
theorem Tc(h:BK P H t x K):∃v,BK P H t x (fun y=>y=v)∧K v:=by
 unfold BK at h⊢
 grind
theorem Rs{ps:List (Nat×AV)}(h:Cq P t ps K):∃v,Cq P t ps (fun y=>y=v)∧K v:=by
 unfold Cq at h⊢
 grind
theorem Uy{op:Op}(g:∀o t x y u,op=.binOp o t x y u→DO y=false)(h:Aq P H op ρ K):∃v,Aq P H op ρ (fun y=>y=v)∧K v:=by
 cases op<;>simp only[Aq]at h⊢<;>try exact h.elim
 case move x=>exact⟨_,rfl,h⟩
 case assign x=>exact⟨_,rfl,h⟩
 case pick c a b=>
  split at h
  ·grind
  ·grind
 case load=>exact Sr h
 case fieldAddr=>exact QO h
 case field=>exact RF h
 case indexAddr=>exact QM h
 case index=>exact RH h
 case extract=>
  split at h
  ·grind
  ·grind
 case binOp o t x y u=>
  rw[g _ _ _ _ _ rfl]at h⊢
  exact SH h
 case unOp=>exact TJ h
 case convert=>exact S2 h
 case nilCheck=>
  unfold DW at h⊢
  split at h
  ·grind
  ·grind
  ·grind
 case makeFunc=>exact⟨_,rfl,h⟩
 case makeInterface=>
  obtain⟨d,h⟩:=h
  repeat' split at h
  all_goals first|exact h.elim|exact⟨_,⟨d,rfl⟩,h⟩
 case typeAssert=>
  obtain⟨d,h⟩:=h
  repeat' split at h
  all_goals first|exact h.elim|exact⟨_,⟨d,h.1,rfl⟩,h.2⟩
 case slice=>exact R2 h
 case build=>exact Rs h
 case lookup=>exact Su h
 case call c=>
  split at h
  ·obtain⟨v,e,f⟩:=Tc h.2;exact⟨v,⟨h.1,e⟩,f⟩
  ·split at h
   ·unfold BT at h⊢
    grind
   ·unfold C4 at h⊢
    grind
   grind
  ·grind
theorem NQ{op:Op}(e:∀o t x y u,op=.binOp o t x y u→DO y=false){v:AV}(d:K v)(h:Aq P H op ρ (fun y=>y=v)):Aq P H op ρ K:=by
 have:(fun y=>y=v)=(fun y=>y=v∧K v):=by funext y;simp[d]
 rw[this]at h
 clear this d
 cases op<;>simp only[Aq]at h⊢<;>try exact h.elim
 case move x=>exact h.1▸h.2
 case assign x=>exact h.1▸h.2
 case pick c a b=>
  split at h
  ·grind
  ·grind
 case load t x=>
  unfold B4 at h⊢
  split at h
  ·grind
  ·grind
  ·grind
 case fieldAddr=>
  unfold Cg at h⊢
  split at h
  ·grind
  ·grind
  ·grind
 case field=>
  unfold Ch at h⊢
  split at h
  ·split at h
   ·grind
   grind
  ·grind
 case indexAddr=>
  unfold BX at h⊢
  split at h
  ·grind
  ·grind
  ·grind
 case index=>
  unfold Cp at h⊢
  split at h
  ·grind
  ·grind
 case makeInterface=>
  refine⟨h.1,?_⟩
  replace h:=h.2
  repeat' split at h
  all_goals first|exact h.elim|exact h.1▸h.2
 case typeAssert=>
  refine⟨h.1,?_⟩
  replace h:=h.2
  repeat' split at h
  all_goals first|exact h.elim|exact⟨h.1,h.2.1▸h.2.2⟩
 case extract=>
  split at h
  ·grind
  ·grind
 case binOp o t x y u=>
  rw[e _ _ _ _ _ rfl]at h⊢
  unfold A9 at h⊢
  split at h
  ·exact⟨h.1,M9 (fun y (hy:y=v∧K v)=>hy.1▸hy.2) h.2⟩
  ·exact Nr (fun y (hy:y=v∧K v)=>hy.1▸hy.2) h
  ·grind
  ·unfold C8 at h⊢
   split at h
   ·split at h
    ·grind
    grind
   grind
  ·cases h.1
  ·grind
 case unOp=>
  unfold Cd at h⊢
  split at h<;>grind
 case nilCheck=>
  unfold DW at h⊢
  split at h
  ·grind
  ·grind
  ·grind
 case convert=>
  unfold Ci at h⊢
  split at h
  ·grind
  ·grind
  ·grind
 case makeFunc=>exact h.1▸h.2
 case slice=>
  unfold B3 at h⊢
  split at h
  ·grind
  ·grind
  ·grind
  ·grind
 case build=>
  unfold Cq at h⊢
  split at h
  ·grind
  ·grind
 case lookup=>exact M5 (fun y (hy:y=v∧K v)=>hy.1▸hy.2) h
 case call c=>
  split at h
  ·refine⟨h.1,?_⟩
   replace h:=h.2
   unfold BK at h⊢
   grind
  ·split at h
   ·unfold BT at h⊢
    grind
   ·unfold C4 at h⊢
    grind
   grind
  ·grind
theorem Kt{o:Oper}(h:Bv o=true)(a:∀t len ps,o.op=.buildSlice t (len+1) ps→False):AZ o=true:=by
 unfold Bv at h
 rw[YE]at h
 rcases h with h|h
 ·exact h
 ·exfalso
  unfold Ls at h
  split at h
  ·rename_i e;exact a _ _ _ e
  ·simp at h
theorem Kl{o:Oper}(a:Bv o=true):∀b t x y u,o.op=.binOp b t x y u→DO y=false:=by
 intro b t x y u h
 simp only[Bv,Ls,AZ,h,Bool.and_false,Bool.or_false,Ye,Y4]at a
 exact a.2
theorem NU{o:Oper}{v:AV}(h:∀x∈o.op.operands,ρ x=ρ' x)(a:qV P l H o ρ v):qV P l H o ρ' v:=by
 obtain⟨q,op,type,pos,after,guard⟩:=o
 have d:∀i:Array Operand,(∀x∈i,ρ x=ρ' x)→i.toList.map ρ=i.toList.map ρ':=fun i k=>YW fun x e=>k x (by simpa using e)
 cases op<;>simp only[Op.operands]at h<;>simp only[qV,Aq]at a⊢<;>try exact a
 case call c=>
  have k:c.args.toList.map ρ=c.args.toList.map ρ':=d _ fun x e=>h x (by simp[Call.operands,e])
  cases j:c.callee with
  |value f=>
   have z:ρ f=ρ' f:=h f (by simp[Call.operands,j])
   grind
  |invoke r m=>simp only[j]at a
  |builtin b=>
   simp only[j]at a⊢
   split at a
   ·rename_i x t y s w
    rw[←h x (by simp[Call.operands,j,Jh s])]
    exact a
   ·grind
   grind
 case build t ps=>
  have:(ps.toList.map fun p=>(p.1,ρ p.2))=ps.toList.map fun p=>(p.1,ρ' p.2):=YW fun p u=>by
   grind
  rw[←this];exact a
 case buildSlice t n ps=>
  cases n with
  |zero=>exact a
  |succ n=>
   have:(ps.toList.map fun p=>(p.1,ρ p.2))=ps.toList.map fun p=>(p.1,ρ' p.2):=YW fun p u=>by
    grind
   simp only at a⊢
   rw[←this];exact a
 case makeFunc fn first g=>
  rw[←d first fun x e=>h x (by simp[e]),←d g fun x e=>h x (by simp[e])];exact a
 case slice t x lo hi A=>
  rw[←h x (by simp),show lo.map ρ'=lo.map ρ from by cases lo<;>simp_all,show hi.map ρ'=hi.map ρ from by cases hi<;>simp_all];exact a
 all_goals(first|(simp_all;done))
theorem NR{o:Oper}{s:Nat→AV}{K:St→Prop}(a:Bv o=true)(h:Ct P l n o K ⟨s,H⟩):∃d v,o.dst=some d∧d<n∧qV P l H o (ev s) v∧K ⟨upd s d v,H⟩:=by
 have k:∃d,o.dst=some d:=by
  have:o.dst.isSome=true:=by
   unfold Bv AZ at a
   rw[YE,Ye,Ye]at a
   rcases a with h|h
   ·exact h.1
   ·exact h.1
  exact YP.1 this
 obtain⟨d,k⟩:=k
 have plain:Aq P H o.op (ev s) (A3 n o.dst K ⟨s,H⟩)→(∀v,Aq P H o.op (ev s) (fun y=>y=v)→qV P l H o (ev s) v)→∃d v,o.dst=some d∧d<n∧qV P l H o (ev s) v∧K ⟨upd s d v,H⟩:=fun h m=>by
  obtain⟨v,p,b⟩:=Uy (Kl a) h
  rw[k]at b
  exact⟨d,v,k,b.1,m v p,b.2⟩
 unfold Ct at h
 split at h
 ·rename_i x
  obtain⟨v,p,b⟩:=h
  rw[k]at b
  refine⟨d,v,k,b.1,?_,b.2⟩
  unfold qV
  rw[x]
  exact p
 ·rename_i c i
  replace a:AZ o=true:=Kt a fun t n ps e=>by rw[i]at e;cases e
  split at h
  ·rename_i f u
   simp only[]at h
   split at h
   ·rename_i g first z A
    obtain⟨r,p,b⟩:=h
    rw[k]at b
    refine⟨d,r,k,b.1,?_,b.2⟩
    simp only[qV,i,u,A]
    exact p
   ·exact h.elim
  ·rename_i u
   refine plain ?_ ?_
   ·unfold AF at h
    simp only[i]at h
    simp only[AZ,i,Ye]at a
    split at h
    ·rename_i f w;exact absurd w (u f)
    ·rename_i q;rw[q]at a;simp at a
    ·rw[i];exact h
   ·intro v m
    unfold qV
    rw[i]at m⊢
    cases j:c.callee with
    |value f=>exact absurd j (u f)
    |_=>simpa[j]using m
 ·rename_i q i
  replace a:AZ o=true:=Kt a fun t n ps e=>q _ _ _ e
  refine plain ?_ ?_
  ·unfold AF at h
   split at h
   ·rename_i he;simp[AZ,he]at a
   ·rename_i he;simp[AZ,he]at a
   ·rename_i he;simp[AZ,he]at a
   ·rename_i he;simp[AZ,he]at a
   ·rename_i he;simp[AZ,he]at a
   ·rename_i c he;exact absurd he (i c)
   ·exact h
  ·intro v m
   unfold qV
   split
   ·rename_i he;exact absurd he (q _ _ _)
   ·rename_i c he;exact absurd he (i c)
   ·exact m
theorem UP{o:Oper}{s:Nat→AV}{v:AV}{d:Nat}(q:Bv o=true)(b:o.dst=some d)(a:d<n)(h:qV P l H o (ev s) v):Ba P l n B o (fun E=>E=⟨upd s d v,H⟩) ⟨s,H⟩:=by
 unfold qV at h
 split at h
 ·rename_i t len parts k
  obtain⟨e,sz,z,es,i,j,u,w,x,y,A,rfl⟩:=h
  exact Mz k b i j u w x y A a rfl
 ·rename_i c C
  split at h
  ·rename_i f p
   split at h
   ·rename_i g first m D
    refine NE C p D (h.mono fun r F ⟨i,j⟩=>?_)
    subst i;subst j
    rw[b]
    exact⟨a,rfl⟩
   grind
  ·rename_i p
   exact H1 (NQ (Kl q) (by rw[b];exact⟨a,rfl⟩) h)
 ·exact H1 (NQ (Kl q) (by rw[b];exact⟨a,rfl⟩) h)
end
section
variable {P:Program} {l n:Nat} {B:Base} {H:Hp} {ops:Array Oper} {md:Region.Mode} {Q:(Nat→AV)→Prop}
def YA(P:Program)(l:Nat)(H:Hp)(ops:Array Oper)(o:Oper)(s:Nat→AV)(v:AV):Prop:=
 match o.guard with
 |none=>qV P l H o (ev s) v
 |some (i,b)=>match DE s (ops.toList.map (·.dst)) i b with
  |some t=>(t=true→qV P l H o (ev s) v)∧(t=false→v=.tup [])
  |none=>False
theorem OC{o:Oper}{s:Nat→AV}{v u:AV}{d:Nat}(k:d∉o.looksAt ops)(h:YA P l H ops o (upd s d u) v):YA P l H ops o s v:=by
 have f:∀x∈o.op.operands,ev (upd s d u) x=ev s x:=fun x p=>by
  cases x with
  |tmp t=>
   have c:t≠d:=fun e=>k (by
    subst e
    exact EQ _ (List.mem_filterMap.2 ⟨.tmp t,by simpa using p,rfl⟩))
   simp[ev,upd,c]
  |_=>rfl
 unfold YA at*
 cases j:o.guard with
 |none=>simp only[j]at h⊢;exact NU f h
 |some m=>
  obtain⟨i,b⟩:=m
  simp only[j]at h⊢
  have g:DE (upd s d u) (ops.toList.map (·.dst)) i b=DE s (ops.toList.map (·.dst)) i b:=by
   unfold DE
   simp only[Yn,Yj]
   cases n:ops[i]? with
   |none=>rfl
   |some q=>
    cases a:q.dst with
    |none=>simp[a]
    |some t=>
     have c:t≠d:=fun e=>k (by subst e;simp[Oper.looksAt,j,n,a])
     simp[a,upd,c]
  rw[g]at h
  split at h
  ·rename_i t r
   exact⟨fun e=>NU f (h.1 e),h.2⟩
  ·exact h
theorem Uk{o:Oper}{s:Nat→AV}{v u:AV}{d:Nat}(a:d∉o.looksAt ops)(h:YA P l H ops o s v):YA P l H ops o (upd s d u) v:=by
 refine OC (d:=d) (u:=s d) a ?_
 have:upd (upd s d u) d (s d)=s:=by funext j;unfold upd;split<;>simp_all
 grind
theorem SS{s:Nat→AV}{d e:Nat}{u v:AV}(h:d≠e):upd (upd s d u) e v=upd (upd s e v) d u:=by
 funext j
 unfold upd
 grind
end
def FD(P:Program)(t:TypeId)(i:Nat):Option (Nat×Nat×Bool):=
 match P.underlying t with
 |some (.struct a)=>(a[i]?).bind fun f=>(BD P f.type).map fun b=>(f.offset,P.cellsOf f.type,b)
 |_=>none
def G5(o:Option (Nat×Nat×Bool))(x:AV)(K:AV→Prop):Prop:=
 match o,x with
 |some (o,n,true),.agg cs=>n≠0∧K (.agg ((cs.drop o).take n))
 |some (o,_,false),.agg cs=>(match cs[o]? with|some c=>K c|none=>False)
 |_,_=>False
theorem Sx{P:Program}{t:TypeId}{i:Nat}{x:AV}{K:AV→Prop}:Ch P t i x K=G5 (FD P t i) x K:=by
 unfold Ch FD
 cases x with
 |agg cs=>
  cases j:P.underlying t with
  |none=>rfl
  |some d=>
   cases d with
   |struct a=>
    simp only
    cases g:a[i]? with
    |none=>rfl
    |some f=>
     simp only[YN]
     cases c:BD P f.type with
     |none=>rfl
     |some b=>cases b<;>rfl
   |_=>rfl
 |_=>
  have e:∀(o:Option (Nat×Nat×Bool)) (y:AV),(∀cs,y≠.agg cs)→G5 o y K=False:=fun o y h=>by
   unfold G5
   grind
  grind
structure fins (P:Program) (l:Nat) (H:Hp) (rs:List ResultVar) (Post:AV→Hp→Prop) (e:Exit) (σ:St):Prop where
 he:e=.normal∨e=.ret
 hy:Ca P σ rs (fun xs=>∃y,Fz σ.H l (BG xs) y∧Post y (DH l σ.H H))
inductive Fit:D→Prop
 |int (k:IntKind) (n:Int):Fit (.int k n)
 |bool (b:Bool):Fit (.bool b)
 |str (s:ByteArray) (h:s.size<2147483648):Fit (.str s)
 |list (es:List (List D)) (hl:es.length<2147483648) (h:∀e∈es,∀x∈e,Fit x):Fit (.list es)
def EH(l:List D):Prop:=∀d∈l,Fit d
theorem Fit.len{α:Type}{e:α→List D}{xs:List α}(h:Fit (.list (xs.map e))):xs.length<2147483648:=by
 cases h with|list _ hl h=>simpa using hl
theorem Fit.mem{α:Type}{e:α→List D}{xs:List α}(h:Fit (.list (xs.map e))){x:α}(a:x∈xs):EH (e x):=by
 cases h with|list _ hl h=>exact h _ (Jn a)
theorem Fit.el{α:Type}{e:α→List D}{xs:List α}(h:Fit (.list (xs.map e))){i:Nat}{x:α}(a:xs[i]?=some x):EH (e x):=h.mem (Yp a)
theorem EH.at{l:List D}(h:EH l)(i:Nat){d:D}(hi:l[i]?=some d):Fit d:=h d (Yp hi)
theorem EH.sub{l:List D}(h:EH l)(i n:Nat){m:List D}(hi:(l.drop i).take n=m):EH m:=by
 subst hi
 exact fun d a=>h d (List.mem_of_mem_drop (List.mem_of_mem_take a))
def nrm:AV→AV
 |.e0=>.d (.list [])
 |.agg xs=>.agg (xs.map fun x=>match x with|.e0=>.d (.list [])|x=>x)
 |x=>x
section
variable {P:Program} {l n:Nat} {B:Base} {H H':Hp} {K:St→Prop} {σ σ':St} {Q:Exit→St→Prop} {s:Nat→AV} {ds:List (Option Nat)} {d:Option Nat} {op:Op} {ty:TypeId} {ps:String} {af:Array Edge} {rest:List Oper}
 {g:Option (Nat×Bool)} {x y:Operand} {t:TypeId}
theorem Kp{a b:Code}(h:AI P l n B a (Pz (AI P l n B b Q) Q) σ):AI P l n B (.seq a b) Q σ:=Ur fun _ c=>Dn h fun e σ' h=>by
 cases e<;>first|exact c σ' h|exact h
theorem Tl{f:FuncId}{fn:Func}(g:List ResultVar){c:Code}{xs:List AV}{a:AV→Hp→Prop}(j:P.funcs[f]?=some fn)(i:fn.body=some c)(b:(fn.name== "runtime.NumGoroutine")=false)
  (k:fn.ntmps=n) (m:fn.results.toList=g) (o:xs.length≤n) (h:∀B:Base,AI P l n B c (fins P l H g a) ⟨args xs,Br l H⟩):ZaR P f l xs H a:=by
 refine Tm j i b k o fun B=>Dn (h B) fun e σ d=>?_
 unfold P9
 rw[m]
 exact⟨d.he,d.hy⟩
theorem Fz.data{xs:List D}:Fz H' l (.agg (xs.map .d)) (.agg (xs.map .d)):=
 .agg _ _ rfl fun i x y a hy=>by
  rw[a]at hy;cases hy
  rw[Yn]at a
  cases hi:xs[i]? with
  |none=>rw[hi]at a;cases a
  |some d=>rw[hi]at a;cases a;exact .keep _ rfl
theorem Fz.pure{xs:List AV}{ds:List D}(h:BB xs=some ds):Fz H' l (.agg xs) (.agg (ds.map .d)):=
 .agg _ _ (by rw[Ym];exact Kk h) fun i x y a hy=>by
  rw[Yn]at hy
  cases hi:ds[i]? with
  |none=>rw[hi]at hy;cases hy
  |some d=>
   rw[hi]at hy;cases hy
   have:=Nx h a hi
   cases x<;>simp only[CG]at this<;>cases this
   ·exact .keep _ rfl
   ·exact .e0
theorem Fz.d'{x:AV}{y:D}(h:x=.d y):Fz H' l x (.d y):=by subst h;exact .keep _ rfl
theorem Fz.two{x y x' e:AV}(f:Fz H' l x x')(hy:Fz H' l y e):Fz H' l (BG [x,y]) (.tup [x',e]):=
 .tup _ _ rfl fun i a b c d=>by
  match i with
  |0=>cases c;cases d;exact f
  |1=>cases c;cases d;exact hy
  |i+2=>simp at c
theorem Fz.one{x x':AV}(a:Fz H' l x x'):Fz H' l (BG [x]) x':=a
theorem RepA.nrm{S:Nat→Prop}{m:Mu}{w:World}{x:AV}{v:Value}(h:RepA w S H m l x v):RepA w S H m l (nrm x) v:=by
 cases x with
 |e0=>exact h.e0_d
 |agg xs=>
  cases h with
  |agg _ vs c a h=>
   refine .agg _ _ (by simpa using c) a (fun i y v hy b=>?_)
   rw[Yn]at hy
   cases hi:xs[i]? with
   |none=>rw[hi]at hy;cases hy
   |some x=>
    rw[hi]at hy
    simp only[YB,Yd]at hy
    subst hy
    have:=h i x v hi b
    split
    ·exact this.e0_d
    grind
 |_=>exact h
theorem ZaR.nrm{f:FuncId}{xs:List AV}{a:AV→Hp→Prop}(h:ZaR P f l (xs.map nrm) H a):ZaR P f l xs H a:=
 ⟨h.1,fun m S w vs d c=>h.2 m S w vs d ⟨by simpa using c.1,fun i x v b e=>by
  rw[Yn]at b
  cases hi:xs[i]? with
  |none=>rw[hi]at b;cases b
  |some y=>
   rw[hi]at b
   simp only[YB,Yd]at b
   subst b
   exact(c.2 i y v hi e).nrm⟩⟩
end
def GA:List Operand→List Nat
 |[]=>[]
 |.tmp t::r=>t::GA r
 |_::r=>GA r
def FM:List (Option Nat)→Nat→Option Nat
 |[],_=>none
 |x::_,0=>x
 |_::r,i+1=>FM r i
def Cs(ds:List (Option Nat))(o:Oper):List Nat:=
 GA o.op.operands.toList++match o.guard with
  |some (g,_)=>(match FM ds g with|some d=>[d]|none=>[])
  |none=>[]
def Cr:List (Nat×Nat)→Nat→Option Nat
 |[],_=>none
 |(d,k)::r,t=>match Nat.beq d t with|true=>some k|false=>Cr r t
def AR(o:Oper)(i:Nat):Bool:=o.after.toList.any fun e=>Region.binds .any e&&Nat.beq e.on i
def clear(o:Oper)(d:Nat):List (Nat×Nat)→Bool
 |[]=>true
 |(t,i)::r=>(match Nat.beq t d with|true=>AR o i|false=>true)&&clear o d r
theorem NS{o:Oper}{d i:Nat}:∀{l:List (Nat×Nat)},clear o d l=true→(d,i)∈l→AR o i=true
 |[],_,h=>by cases h
 |(t,j)::r,a,h=>by
  simp only[clear,Ye]at a
  rcases YG.1 h with h|h
  ·cases h
   have:=a.1
   rw[JC]at this
   exact this
  ·exact NS a.2 h
def Fx(ds:List (Option Nat)):Nat→List (Nat×Nat)→List (Nat×Nat)→List Oper→Bool
 |_,_,_,[]=>true
 |k,seen,looked,o::r=>
  (o.after.toList.all fun e=>!Region.binds .any e||Nat.ble (e.on+1) k)&&
  ((Cs ds o).all fun t=>match Cr seen t with|some i=>AR o i|none=>true)&&
  match o.dst with
  |some d=>(Cr seen d).isNone&&clear o d looked&&Fx ds (k+1) ((d,k)::seen) ((Cs ds o).map (·,k)++looked) r
  |none=>Fx ds (k+1) seen ((Cs ds o).map (·,k)++looked) r
def In:List Oper→Bool
 |[]=>true
 |o::r=>(match o.op with|.select _ _=>false|_=>true)&&In r
def Lh(ops:List Oper):Bool:=In ops&&Fx (ops.map (·.dst)) 0 [] [] ops
theorem Ry(xs:List Operand):GA xs=xs.filterMap fun|.tmp t=>some t|_=>none:=by
 induction xs with
 |nil=>rfl
 |cons x xs a=>cases x<;>simp[GA,a]
theorem Ov:∀(ds:List (Option Nat)) (i:Nat),FM ds i=(ds[i]?).join
 |[],i=>by simp[FM]
 |x::r,0=>by simp[FM]
 |x::r,i+1=>by simp[FM,Ov r i]
theorem NB(ops:List Oper)(o:Oper):Cs (ops.map (·.dst)) o=o.looksAt ops.toArray:=by
 unfold Cs Oper.looksAt
 rw[Ry]
 congr 1
 cases d:o.guard with
 |none=>rfl
 |some a=>
  obtain⟨g,b⟩:=a
  simp only
  rw[Ov,Yn]
  simp only[Mn]
  cases ops[g]? with
  |none=>rfl
  |some c=>simp only[YB,Option.join_some,YN];cases c.dst<;>rfl
structure FInv (ds:List (Option Nat)) (pre:List Oper) (seen:List (Nat×Nat)) (looked:List (Nat×Nat)):Prop where
 s1:∀d i,Cr seen d=some i→∃o,pre[i]?=some o∧o.dst=some d
 s2:∀(i:Nat) (o:Oper) (d:Nat),pre[i]?=some o→o.dst=some d→Cr seen d=some i
 lo:∀(i:Nat) (o:Oper),pre[i]?=some o→∀t∈Cs ds o,(t,i)∈looked
def Ii(ds:List (Option Nat))(x y:Oper):Prop:=(∀d,x.dst=some d→d∉Cs ds y∧y.dst≠some d)∧(∀d,y.dst=some d→d∉Cs ds x)
theorem MS(ds:List (Option Nat)):∀(q pre:List Oper) (seen looked:List (Nat×Nat)),FInv ds pre seen looked→Fx ds pre.length seen looked q=true→
  ∀(j:Nat) (n:Oper),q[j]?=some n→(∀e∈n.after,Region.binds .any e=true→e.on<pre.length+j)∧
   ∀(i:Nat) (m:Oper),i<pre.length+j→(pre++q)[i]?=some m→AR n i=true∨Ii ds m n
 |[],pre,seen,looked,u,h,j,n,A=>by simp at A
 |o::r,pre,seen,looked,u,h,j,n,A=>by
  simp only[Fx,Ye]at h
  obtain⟨⟨G,H⟩,s⟩:=h
  cases j with
  |zero=>
   simp only[YZ,Yd]at A
   subst A
   refine⟨fun e he D=>?_,fun i m hi f=>?_⟩
   ·have:=Yo.1 G e (by simpa using he)
    simp only[D,Bool.not_true,Bool.false_or]at this
    have:=Yf this
    omega
   ·rw[Yh (by omega)]at f
    by_cases z:AR o i=true
    ·exact .inl z
    ·right
     refine⟨fun d v=>⟨fun hm=>?_,fun g=>?_⟩,fun d v hm=>?_⟩
     ·have:=Yo.1 H d hm
      rw[u.s2 i m d f v]at this
      exact z this
     ·rw[g]at s
      simp only[Ye]at s
      have:=s.1.1
      rw[u.s2 i m d f v]at this
      cases this
     ·rw[v]at s
      simp only[Ye]at s
      exact z (NS s.1.2 (u.lo i m f d hm))
  |succ j=>
   simp only[Y8]at A
   have p:∀(c:List (Nat×Nat)),(∀d i,Cr c d=some i→∃l,(pre++[o])[i]?=some l∧l.dst=some d)→(∀(i:Nat) (l:Oper) (d:Nat),(pre++[o])[i]?=some l→l.dst=some d→Cr c d=some i)→
     FInv ds (pre++[o]) c ((Cs ds o).map (·,pre.length)++looked):=fun c a b=>⟨a,b,fun i l f t F=>by
    rcases Hs i pre.length with k|heq|B
    ·rw[Yh k]at f;exact List.mem_append_right _ (u.lo i l f t F)
    ·subst heq;simp at f;subst f;exact EQ _ (YD.2 ⟨t,F,rfl⟩)
    ·rw[Yx (by simp;omega)]at f;cases f⟩
   have fin:∀c,FInv ds (pre++[o]) c ((Cs ds o).map (·,pre.length)++looked)→Fx ds (pre.length+1) c ((Cs ds o).map (·,pre.length)++looked) r=true→_:=fun c C J=>
    MS ds r (pre++[o]) c ((Cs ds o).map (·,pre.length)++looked) C (by simpa using J) j n A
   have conv:(∀e∈n.after,Region.binds .any e=true→e.on<(pre++[o]).length+j)∧(∀(i:Nat) (m:Oper),i<(pre++[o]).length+j→(pre++[o]++r)[i]?=some m→AR n i=true∨Ii ds m n)→
     (∀e∈n.after,Region.binds .any e=true→e.on<pre.length+(j+1))∧(∀(i:Nat) (m:Oper),i<pre.length+(j+1)→(pre++o::r)[i]?=some m→AR n i=true∨Ii ds m n):=by
    rintro⟨a,b⟩
    simp only[Ys,YQ,YX,YO,Em,Y6]at a b
    exact⟨fun e he D=>by have:=a e he D;omega,fun i m hi f=>b i m (by omega) f⟩
   split at s
   ·rename_i d v
    simp only[Ye]at s
    obtain⟨⟨E,K⟩,I⟩:=s
    have y:Cr seen d=none:=by cases w:Cr seen d with|none=>rfl|some i=>rw[w]at E;cases E
    refine conv (fin _ (p ((d,pre.length)::seen) (fun d' i w=>?_) (fun i l d' f g=>?_)) I)
    ·simp only[Cr]at w
     split at w
     ·rename_i he;cases w;rw[←Ya he];exact⟨o,by simp,v⟩
     ·obtain⟨l,a,b⟩:=u.s1 d' i w
      refine⟨l,?_,b⟩
      rw[Yh];exact a
      rcases Yq i pre.length with k|x
      ·exact k
      ·rw[Yx x]at a;cases a
    ·simp only[Cr]
     rcases Hs i pre.length with k|heq|B
     ·rw[Yh k]at f
      have:=u.s2 i l d' f g
      split
      ·rename_i he
       rw[←Ya he,y]at this;cases this
      ·exact this
     ·subst heq;simp at f;subst f;rw[v]at g;cases g;simp
     ·rw[Yx (by simp;omega)]at f;cases f
   ·rename_i v
    refine conv (fin _ (p seen (fun d' i w=>?_) (fun i l d' f g=>?_)) s)
    ·obtain⟨l,a,b⟩:=u.s1 d' i w
     refine⟨l,?_,b⟩
     rw[Yh];exact a
     rcases Yq i pre.length with k|x
     ·exact k
     ·rw[Yx x]at a;cases a
    ·rcases Hs i pre.length with k|heq|B
     ·rw[Yh k]at f;exact u.s2 i l d' f g
     ·subst heq;simp at f;subst f;rw[v]at g;cases g
     ·rw[Yx (by simp;omega)]at f;cases f
theorem Rl{ops:List Oper}{x y:Oper}(h:Ii (ops.map (·.dst)) x y):x.apart ops.toArray y=true:=by
 obtain⟨a,c⟩:=h
 rw[NB]at c
 have b:∀d,x.dst=some d→d∉y.looksAt ops.toArray∧y.dst≠some d:=fun d e=>by have:=a d e;rw[NB]at this;exact this
 unfold Oper.apart
 grind
theorem MH{ops:Array Oper}(l:∀(j:Nat) (b:Oper),ops[j]?=some b→∀e∈b.after,Region.binds .any e=true→e.on<j)
  (m:∀(i j:Nat) (n b:Oper),i<j→ops[i]?=some n→ops[j]?=some b→AR b i=true∨n.apart ops b=true):
  ∀(fuel k:Nat) (listed:Array Bool),fuel+k=ops.size→listed.size=ops.size→(∀j,j<ops.size→listed[j]?=some (decide (j<k)))→Region.lexFrom .any ops fuel k listed=true
 |0,k,listed,p,hs,hl=>by
  simp only[Region.lexFrom]
  rw[List.isEmpty_iff,Region.ready,List.filter_eq_nil_iff]
  intro i hi
  have hi:=Jy.1 hi
  have:=hl i hi
  simp[Yv,this]
  omega
 |fuel+1,k,listed,p,hs,hl=>by
  have f:k<ops.size:=by omega
  have a:ops[k]?=some ops[k]:=Yi f
  simp only[Region.lexFrom,Ye]
  refine⟨⟨?_,?_⟩,MH l m fuel (k+1) _ (by omega) (by simp[hs]) (fun j c=>?_)⟩
  ·rw[List.contains_iff_mem]
   unfold Region.ready
   refine Jf.2 ⟨Jy.2 f,?_⟩
   rw[Ye]
   refine⟨by simp[Yv,hl k f],?_⟩
   rw[a]
   simp only[YB,YM]
   rw[Array.all_eq_true_iff_forall_mem]
   intro e he
   by_cases o:Region.binds .any e=true
   ·have:=l k _ a e he o
    simp[Yv,hl e.on (by omega),this]
   grind
  ·unfold Region.free
   rw[a]
   simp only[Yo,Jy]
   intro j c
   rw[YE,YE]
   rcases Hs j k with g|heq|d
   ·left;right;simp[Yv,hl j c,g]
   ·grind
   ·right
    rw[Yi c]
    simp only
    rw[YE]
    rcases m k j _ _ d a (Yi c)with h|h
    ·left
     unfold AR at h
     obtain⟨e,he,h⟩:=Y0.1 h
     rw[←Array.any_toList]
     exact Y0.2 ⟨e,he,by simpa using h⟩
    grind
  grind
theorem RY{ops:List Oper}(h:Lh ops=true):Region.lexB .any ops.toArray=true:=by
 unfold Lh at h
 rw[Ye]at h
 have g:∀(l:List Oper),In l=true→l.all (fun o=>match o.op with|.select ..=>false|_=>true)=true:=fun l=>by
  induction l with
  |nil=>intro _;rfl
  |cons o l p=>
   intro m
   simp only[In,Ye]at m
   grind
 have key:=MS (ops.map (·.dst)) ops [] [] [] ⟨fun d i k=>by simp[Cr]at k,fun i o d e=>by simp at e,fun i o e=>by simp at e⟩ h.2
 simp only[YX,YH,Y6]at key
 unfold Region.lexB
 rw[Ye]
 refine⟨?_,MH (fun j f b=>(key j f (by simpa using b)).1) (fun i j n f c hi b=>?_) _ 0 _ rfl (by simp) (fun j b=>by simp at b⊢;simp[b])⟩
 ·unfold Region.noSelect
  grind
 ·rcases(key j f (by simpa using b)).2 i n c (by simpa using hi)with a|a
  ·grind
  ·exact .inr (Rl a)
structure TI where
 agg:Bool:=false
 kin:Nat:=0
 siz:Nat:=1
 elm:Option (Nat×Nat):=none
 fld:List (Nat×Nat×Bool):=[]
 zer:Option (List AV):=none
 eqt:Option (List Nat):=none
 str:Bool:=false
 ik:Option IntKind:=none
 byt:Option Nat:=none
 mp:Option (Bool×List D):=none
def AV.flat:AV→Bool
 |.d _|.e0|.p _|.iptr _ _=>true
 |_=>false
structure TIok (P:Program) (t:TypeId) (i:TI):Prop where
 agg:BD P t=some i.agg
 kin:kin P t=i.kin
 siz:P.cellsOf t=i.siz
 elm:∀e,i.elm=some e→Go.Eng.elm P t=some e
 fld:∀(j:Nat) (x:Nat×Nat×Bool),i.fld[j]?=some x→Go.Eng.fld P t j=some (x.1,x.2.1)∧FD P t j=some x
 zer:∀z,i.zer=some z→Go.Eng.zer P t=some z
 eqt:∀z,i.eqt=some z→FV P t=some z
 str:i.str=true→FN P t=true
 ik:∀z,i.ik=some z→P.underlying t=some (.int z)
 byt:∀z,i.byt=some z→P.bytesOf t≤z∧P.bytesOf t≠0
 flt:∀z,i.zer=some z→z.all AV.flat=true
 mp:∀z,i.mp=some z→FK P t=some z
def AG(P:Program)(T:Nat→Option TI):Prop:=∀t i,T t=some i→TIok P t i
inductive AT where
 |nil
 |go (r:AT)
 |av (x:AV) (r:AT)
 |cs (c:List AV) (r:AT)
 |ds (e:List D) (r:AT)
 |num (n:Int) (r:AT)
 |nat (n:Nat) (r:AT)
 |call (x:AV) (ks:List Aa) (r:AT)
 |callH (x:AV) (ks:List Aa) (hb:List (Aa×List AV)) (r:AT)
 |br (a b:AT)
 |frz (d:Nat) (js:List (Nat×List (List D))) (cs:List (Aa×Nat×List (List D))) (r:AT)
 |adc (k:Aa) (i d:Nat) (e:TypeId) (sz:Nat) (r:AT)
 |mv (d j:Nat) (r:AT)
 |ads (j d:Nat) (e:TypeId) (sz:Nat) (r:AT)
 |trim (k:Aa) (c:List AV) (r:AT)
 |reb (j d m:Nat) (c:List AV) (r:AT)
 |sep (r:AT)
 |hard (x:AV) (ks:List Aa) (hb:List (Aa×Blk)) (fr:List Aa) (r:AT)
 |ents (es:List (List D)) (r:AT)
 |all (a:AT) (f:Nat→AT)
 |fzm (d:Nat) (js:List Nat) (r:AT)
 |fzb (d:Nat) (js:List Nat) (r:AT)
 |rnm (d d' e i:Nat) (r:AT)
 |mvc (d q e i:Nat) (r:AT)
 |one (v:Bool) (r:AT)
structure Ren where
 κ:Aa→Aa
 γ:Aa→Nat
 θ:Nat→AV
 H0:Hp
 no:Aa→Prop
mutual
def ren(r:Ren):AV→AV
 |.ref k g off n=>.ref (r.κ k) (r.γ k+g) off n
 |.ptr k g off=>.ptr (r.κ k) (r.γ k+g) off
 |.mp k g=>.mp (r.κ k) (r.γ k+g)
 |.fn f xs ys=>match f with
  |.yield i=>r.θ i
  |f=>.fn f (Ab r xs) (Ab r ys)
 |.agg xs=>.agg (Ab r xs)
 |.tup xs=>.tup (Ab r xs)
 |.top=>.top
 |.d x=>.d x
 |.e0=>.e0
 |.p x=>.p x
 |.iptr cs off=>.iptr cs off
 |.ifc t ds a=>.ifc t ds a
def Ab(r:Ren):List AV→List AV
 |[]=>[]
 |x::xs=>ren r x::Ab r xs
end
def Ah(r:Ren)(k:Aa)(b:Blk):Blk:=⟨r.γ k+b.g,true,b.e,b.sz,Ab r b.cells⟩
theorem CD{r:Ren}(xs:List AV):Ab r xs=xs.map (ren r):=by
 induction xs with
 |nil=>simp[Ab]
 |cons x xs a=>simp[Ab,a]
theorem Bc{r:Ren}(xs:List AV):(Ab r xs).length=xs.length:=by rw[CD,Ym]
theorem CX{r:Ren}(xs ys:List AV):Ab r (xs++ys)=Ab r xs++Ab r ys:=by simp[CD]
theorem Ce{r:Ren}(xs:List AV)(n:Nat):(Ab r xs).drop n=Ab r (xs.drop n):=by simp[CD]
theorem Co{r:Ren}(xs:List AV)(n:Nat):(Ab r xs).take n=Ab r (xs.take n):=by simp[CD]
theorem Dl{r:Ren}(xs:List AV)(n:Nat):(Ab r xs)[n]?=(xs[n]?).map (ren r):=by simp[CD]
theorem DN{r:Ren}(xs:List D):Ab r (xs.map .d)=xs.map .d:=by
 induction xs with
 |nil=>simp[Ab]
 |cons x xs a=>simp only[YK,Ab,ren,a]
theorem SF{r:Ren}{xs:List AV}(h:xs≠[]):Ab r xs≠[]:=by cases xs<;>simp_all[Ab]
def BF(r:Ren)(H a:Hp):Prop:=∀k,(H k).live=true→a (r.κ k)=Ah r k (H k)
def AY{α:Type}:List α→Nat→Option α
 |[],_=>none
 |x::_,0=>some x
 |_::xs,i+1=>AY xs i
theorem B1{α:Type}:∀(xs:List α) (i:Nat),AY xs i=xs[i]?
 |[],i=>by simp[AY]
 |x::xs,0=>by simp[AY]
 |x::xs,i+1=>by simp[AY,B1 xs i]
def DR{α:Type}:Nat→List α→Option (List α)
 |0,_=>some []
 |n+1,x::xs=>match DR n xs with|some r=>some (x::r)|none=>none
 |_+1,[]=>none
theorem Kn{α:Type}:∀(n:Nat) (xs r:List α),DR n xs=some r→xs.take n=r∧n≤xs.length
 |0,xs,r,h=>by simp only[DR,Yd]at h;subst h;simp
 |n+1,[],r,h=>by simp[DR]at h
 |n+1,x::xs,r,h=>by
  simp only[DR]at h
  split at h
  ·rename_i q a
   cases h
   obtain⟨b,c⟩:=Kn n xs q a
   grind
  ·cases h
def AL(H:Hp)(k:Aa)(g:Nat):Bool:=Nat.beq g (H k).g&&(H k).live
theorem BV{H:Hp}{k:Aa}{g:Nat}(h:AL H k g=true):g=(H k).g∧(H k).live=true:=by
 simp only[AL,Ye]at h
 exact⟨Ya h.1,h.2⟩
theorem BF.at{r:Ren}{H a:Hp}(h:BF r H a){k:Aa}{g:Nat}(hl:AL H k g=true):r.γ k+g=(a (r.κ k)).g∧(a (r.κ k)).live=true∧(a (r.κ k)).e=(H k).e∧(a (r.κ k)).sz=(H k).sz∧(a (r.κ k)).cells=Ab r (H k).cells:=by
 obtain⟨b,c⟩:=BV hl
 rw[h k c]
 subst b
 exact⟨rfl,rfl,rfl,rfl,rfl⟩
def Az(g:Option Bool)(S:Prop):Prop:=
 match g with
 |none=>S
 |some b=>b=true→S
theorem AD{g:Option Bool}{S:Prop}(a:∀b,g=some b→b=true)(h:Az g S):S:=by
 unfold Az at h
 grind
def CW(cs:List AV)(off:Nat)(c:List AV):Prop:=(cs.drop off).take c.length=c
def D8(es:List (List D))(n:Int)(e:List D):Prop:=0≤n∧es[n.toNat]?=some e
def IA(n:Int)(len off sz o:Nat):Prop:=0≤n∧n<len∧(off+n.toNat)*sz=o
def Qe(s:ByteArray)(n b:Int):Prop:=0≤n∧∃x:UInt8,s.data.toList[n.toNat]?=some x∧b=x.toNat
def A7(k:IntKind)(a r:Int):Prop:=k.wrap a=r
def AK(a b:Int):Prop:=a=b
def Ho(a b:Int):Prop:=a≠b
def Hn(a b:Int):Prop:=a≤b
def Qd(a b:ByteArray):Prop:=a.size+b.size≤9223372036854775807
def Cz(dflt:Nat)(o:Option AV)(l:Nat):Prop:=
 match o with
 |none=>l=dflt
 |some (.d (.int _ n))=>n=l
 |_=>False
def Ek(l h n:Nat):Prop:=l≤h∧h≤n
def Md(es:List (List D))(sz l h:Nat)(a:List (List D)):Prop:=(∀e,e∈es→e.length=sz)∧(es.drop l).take (h-l)=a
def Me(off l h o n:Nat):Prop:=off+l=o∧h-l=n
def Lc(t:Bool)(a b:AV):AV:=
 match a,b with
 |.d (.bool x),.d (.bool y)=>.d (.bool (cond t x y))
 |a,b=>cond t a b
theorem SM(t:Bool)(a b:AV):Lc t a b=if t then a else b:=by
 unfold Lc
 grind
def Fs(i:TI)(H:Hp)(x:AV)(g:Option Bool)(a:AT)(K:AV→AT→Prop):Prop:=
 match x with
 |.iptr cs off=>match i.agg with
  |true=>match Nat.ble 1 i.siz,DR i.siz (cs.drop off)with|true,some c=>K (.agg (c.map .d)) a|_,_=>False
  |false=>match AY cs off with|some c=>K (.d c) a|none=>False
 |.ptr k q off=>match AL H k q with
  |true=>match a with
   |.go r=>(match i.agg with
    |true=>match Nat.ble 1 i.siz,DR i.siz ((H k).cells.drop off)with|true,some c=>K (.agg c) r|_,_=>False
    |false=>match AY (H k).cells off with|some c=>K c r|none=>False)
   |.cs c r=>(match i.agg with
    |true=>match Nat.ble 1 i.siz,Nat.beq c.length i.siz with|true,true=>Az g (CW (H k).cells off c)∧K (.agg c) r|_,_=>False
    |false=>match c with|[x]=>Az g (CW (H k).cells off [x])∧K x r|_=>False)
   |_=>False
  |false=>False
 |_=>False
def HO(i:TI)(H:Hp)(f:Nat)(x:AV)(a:AT)(K:AV→AT→Prop):Prop:=
 match AY i.fld f with
 |some (o,n,_)=>match Nat.ble 1 n with
  |true=>(match x with
   |.iptr cs off=>K (.iptr cs (off+o)) a
   |.ptr k q off=>match AL H k q with|true=>K (.ptr k q (off+o)) a|false=>False
   |_=>False)
  |false=>False
 |none=>False
def If(i:TI)(f:Nat)(x:AV)(a:AT)(K:AV→AT→Prop):Prop:=
 match AY i.fld f,x with
 |some (o,n,true),.agg cs=>(match Nat.ble 1 n with|true=>K (.agg ((cs.drop o).take n)) a|false=>False)
 |some (o,_,false),.agg cs=>(match AY cs o with|some c=>K c a|none=>False)
 |_,_=>False
def HQ(i:TI)(H:Hp)(x j:AV)(g:Option Bool)(a:AT)(K:AV→AT→Prop):Prop:=
 match i.elm,j with
 |some (_,sz),.d (.int _ n)=>(match x,a with
  |.d (.list es),.ds e r=>(match Nat.beq e.length sz,Nat.ble 1 sz with|true,true=>Az g (D8 es n e)∧K (.iptr e 0) r|_,_=>False)
  |.ref k q off len,.nat o r=>(match AL H k q,Nat.beq (H k).sz sz,Nat.ble 1 sz with|true,true,true=>Az g (IA n len off sz o)∧K (.ptr k q o) r|_,_,_=>False)
  |_,_=>False)
 |_,_=>False
def Ij(i:TI)(x j:AV)(g:Option Bool)(a:AT)(K:AV→AT→Prop):Prop:=
 match x,j,a with
 |.d (.str s),.d (.int _ n),.num b r=>(match Nat.beq i.kin 2 with|true=>Az g (Qe s n b)∧K (.d (.int .u8 b)) r|false=>False)
 |_,_,_=>False
def IH(op:BinOp)(k:IntKind)(x y:Int)(g:Option Bool)(a:AT)(K:AV→AT→Prop):Prop:=
 match op with
 |.eql=>K (.d (.bool (decide (x=y)))) a
 |.neq=>K (.d (.bool (!decide (x=y)))) a
 |.lss=>K (.d (.bool (decide (x<y)))) a
 |.leq=>K (.d (.bool (decide (x≤y)))) a
 |.gtr=>K (.d (.bool (decide (y<x)))) a
 |.geq=>K (.d (.bool (decide (y≤x)))) a
 |.add=>match a with|.num n r=>Az g (A7 k (x+y) n)∧K (.d (.int k n)) r|_=>False
 |.sub=>match a with|.num n r=>Az g (A7 k (x-y) n)∧K (.d (.int k n)) r|_=>False
 |.mul=>match a with|.num n r=>Az g (A7 k (x*y) n)∧K (.d (.int k n)) r|_=>False
 |.quo=>match a with|.num n r=>Az g (Ho y 0)∧Az g (A7 k (x.tdiv y) n)∧K (.d (.int k n)) r|_=>False
 |.rem=>match a with|.num n r=>Az g (Ho y 0)∧Az g (AK (x.tmod y) n)∧K (.d (.int k n)) r|_=>False
 |.shr=>match a with|.num n r=>Az g (Hn 0 y)∧Az g (AK (x.fdiv (2^(min y.toNat k.bits))) n)∧K (.d (.int k n)) r|_=>False
 |.shl=>match a with|.num n r=>Az g (Hn 0 y)∧Az g (A7 k (x*2^(min y.toNat k.bits)) n)∧K (.d (.int k n)) r|_=>False
 |.and=>match a with|.num n r=>Az g (AK (IE k x y) n)∧K (.d (.int k n)) r|_=>False
 |.or=>match a with|.num n r=>Az g (AK (I2 k x y) n)∧K (.d (.int k n)) r|_=>False
 |.xor=>match a with|.num n r=>Az g (AK (G0 k x y) n)∧K (.d (.int k n)) r|_=>False
 |_=>False
def II(op:BinOp)(x y:ByteArray)(g:Option Bool)(a:AT)(K:AV→AT→Prop):Prop:=
 match op with
 |.add=>Az g (Qd x y)∧K (.d (.str (x++y))) a
 |.eql=>K (.d (.bool (decide (x=y)))) a
 |.neq=>K (.d (.bool (!decide (x=y)))) a
 |.lss=>K (.d (.bool (Bj x y))) a
 |.leq=>K (.d (.bool (Bj x y||decide (x=y)))) a
 |.gtr=>K (.d (.bool (!(Bj x y||decide (x=y))))) a
 |.geq=>K (.d (.bool (!Bj x y))) a
 |_=>False
def FJ(H:Hp)(neg:Bool)(x:AV)(a:AT)(K:AV→AT→Prop):Prop:=
 match x with
 |.e0=>∀b,K (.d (.bool b)) a
 |.d (.list es)=>∀b,(es≠[]→b=neg)→K (.d (.bool b)) a
 |.ref k q _ n=>(match AL H k q with|true=>∀b,(n≠0→b=neg)→K (.d (.bool b)) a|false=>False)
 |_=>False
def Qm:IntKind→IntKind→Bool
 |.i8,.i8|.i16,.i16|.i32,.i32|.i64,.i64|.u8,.u8|.u16,.u16|.u32,.u32|.u64,.u64=>true
 |_,_=>false
theorem U0{a b:IntKind}(h:Qm a b=true):a=b:=by cases a<;>cases b<;>first|rfl|cases h
def Ix(i:TI)(H:Hp)(op:BinOp)(c:Bool)(x y:AV)(g:Option Bool)(a:AT)(K:AV→AT→Prop):Prop:=
 match x,y with
 |.d (.int k m),.d (.int k' n)=>(match Qm k k' with|true=>IH op k m n g a K|false=>False)
 |.d (.str m),.d (.str n)=>II op m n g a K
 |.d (.bool m),.d (.bool n)=>(match Nat.beq i.kin 1 with
  |true=>(match op with
   |.eql=>K (.d (.bool (m==n))) a
   |.neq=>K (.d (.bool (!(m==n)))) a
   |_=>False)
  |false=>False)
 |.agg xs,.agg ys=>(match i.eqt with
  |some ks=>(match B5 ks xs ys with
   |some b=>(match op with
    |.eql=>K (.d (.bool b)) a
    |.neq=>K (.d (.bool (!b))) a
    |_=>False)
   |none=>False)
  |none=>False)
 |x,.e0=>(match c,Nat.beq i.kin 4 with
  |true,true=>(match op with
   |.eql=>FJ H false x a K
   |.neq=>FJ H true x a K
   |_=>False)
  |_,_=>False)
 |_,_=>False
def I4(op:UnOp)(x:AV)(g:Option Bool)(a:AT)(K:AV→AT→Prop):Prop:=
 match op,x with
 |.not,.d (.bool b)=>K (.d (.bool (!b))) a
 |.neg,.d (.int k n)=>(match a with|.num m r=>Az g (A7 k (0-n) m)∧K (.d (.int k m)) r|_=>False)
 |.xor,.d (.int k n)=>(match a with|.num m r=>Az g (AK (PY k n) m)∧K (.d (.int k m)) r|_=>False)
 |_,_=>False
def Ip(s d:TI)(x:AV)(g:Option Bool)(a:AT)(K:AV→AT→Prop):Prop:=
 match x with
 |.d (.int _ n)=>(match s.ik,d.ik,a with|some _,some k,.num m r=>Az g (A7 k n m)∧K (.d (.int k m)) r|_,_,_=>False)
 |.d (.str s')=>(match Nat.beq s.kin 2,Nat.beq d.kin 2 with|true,true=>K (.d (.str s')) a|_,_=>False)
 |_=>False
def Ie(i:TI)(H:Hp)(x:AV)(lo hi:Option AV)(e:Bool)(g:Option Bool)(a:AT)(K:AV→AT→Prop):Prop:=
 match e,a with
 |false,.nat l (.nat h r)=>(match x with
  |.d (.str s)=>(match Nat.beq i.kin 2 with|true=>Az g (Cz 0 lo l)∧Az g (Cz s.size hi h)∧Az g (Ek l h s.size)∧K (.d (.str (s.extract l h))) r|false=>False)
  |.d (.list es)=>(match i.elm,r with
   |some (_,sz),.av (.d (.list b)) r=>(match Nat.ble 1 sz with
    |true=>Az g (Cz 0 lo l)∧Az g (Cz es.length hi h)∧Az g (Ek l h es.length)∧Az g (Md es sz l h b)∧K (.d (.list b)) r
    |false=>False)
   |_,_=>False)
  |.ref k q off n=>(match i.elm,r,AL H k q with
   |some (_,sz),.nat d (.nat c r),true=>(match Nat.ble 1 sz,Nat.beq (H k).sz sz with
    |true,true=>Az g (Cz 0 lo l)∧Az g (Cz n hi h)∧Az g (Ek l h n)∧Az g (Me off l h d c)∧K (.ref k q d c) r
    |_,_=>False)
   |_,_,_=>False)
  |_=>False)
 |_,_=>False
def IC(i:TI)(H:Hp)(x:AV)(g:Option Bool)(a:AT)(K:AV→AT→Prop):Prop:=
 match x,a with
 |.d (.str s),.num n r=>(match Nat.beq i.kin 2 with|true=>Az g (AK s.size n)∧K (.d (.int .i64 n)) r|false=>False)
 |.d (.list es),.num n r=>(match Nat.beq i.kin 4 with|true=>Az g (AK es.length n)∧K (.d (.int .i64 n)) r|false=>False)
 |.e0,.num n r=>(match Nat.beq i.kin 4 with|true=>Az g (AK 0 n)∧K (.d (.int .i64 n)) r|false=>False)
 |.ref k q _ m,.num n r=>(match Nat.beq i.kin 4,AL H k q with|true,true=>Az g (AK m n)∧K (.d (.int .i64 n)) r|_,_=>False)
 |_,_=>False
def K9(H:Hp):AV→Option (Bool×List (List D))
 |.d (.map q es)=>some (q,es)
 |.mp k g=>match AL H k g,(H k).e with
  |true,.m q es=>some (q,es)
  |_,_=>none
 |_=>none
def Ql:Bool→Bool→Bool
 |true,true=>true
 |false,false=>true
 |_,_=>false
theorem UZ{a b:Bool}(h:Ql a b=true):a=b:=by cases a<;>cases b<;>first|rfl|cases h
def O8(es:List (List D))(s:ByteArray)(z vs:List D)(ok:Bool):Prop:=(C1 s es).isSome=ok∧(C1 s es).getD z=vs
def Iv(i:TI)(H:Hp)(x y:AV)(b:Bool)(g:Option Bool)(a:AT)(K:AV→AT→Prop):Prop:=
 match i.mp,K9 H x,y,a with
 |some (q,z),some (c,es),.d (.str s),.av (.d (.bool ok)) (.ds vs r)=>(match Ql q c with
  |true=>Az g (O8 es s z vs ok)∧K (FY b q vs ok) r
  |false=>False)
 |_,_,_,_=>False
def LF(i:TI)(f:Nat):Option (Nat×Nat):=match AY i.fld f with|some (o,n,_)=>some (o,n)|none=>none
def GG(i:TI)(cells:List AV):List (Nat×AV)→Option (List AV)
 |[]=>some cells
 |(f,v)::a=>match LF i f,Bk v with
  |some (off,size),some vs=>match Nat.beq vs.length size,Nat.ble (off+vs.length) cells.length with
   |true,true=>GG i (cells.take off++vs++cells.drop (off+vs.length)) a
   |_,_=>none
  |_,_=>none
def Ia(i:TI)(parts:List (Nat×AV))(a:AT)(K:AV→AT→Prop):Prop:=
 match i.str,i.zer with
 |true,some z=>(match GG i z parts with|some cs=>K (.agg cs) a|none=>False)
 |_,_=>False
def DZ:AV→Bool
 |.fn (.yield _) _ _=>false
 |_=>true
def tV(T:Nat→Option TI)(H:Hp)(op:Op)(ρ:Operand→AV)(g:Option Bool)(a:AT)(K:AV→AT→Prop):Prop:=
 match op with
 |.move x=>K (ρ x) a
 |.assign x=>K (ρ x) a
 |.pick c x y=>match ρ c with|.d (.bool t)=>K (Lc t (ρ x) (ρ y)) a|_=>False
 |.load t x=>match T t with|some i=>Fs i H (ρ x) g a K|none=>False
 |.fieldAddr t x f=>match T t with|some i=>HO i H f (ρ x) a K|none=>False
 |.field t x f=>match T t with|some i=>If i f (ρ x) a K|none=>False
 |.indexAddr t x j=>match T t with|some i=>HQ i H (ρ x) (ρ j) g a K|none=>False
 |.index t x j=>match T t with|some i=>Ij i (ρ x) (ρ j) g a K|none=>False
 |.extract x j=>match ρ x with|.tup vs=>(match AY vs j with|some y=>K y a|none=>False)|_=>False
 |.binOp o t x y _=>match T t with|some i=>Ix i H o (DO y) (ρ x) (ρ y) g a K|none=>False
 |.unOp o _ x=>I4 o (ρ x) g a K
 |.nilCheck x=>match ρ x with|.ptr k q off=>(match AL H k q with|true=>K (.ptr k q off) a|false=>False)|.iptr cs off=>K (.iptr cs off) a|_=>False
 |.convert s d x=>match T s,T d with|some i,some j=>Ip i j (ρ x) g a K|_,_=>False
 |.makeInterface t x=>match T t with|some i=>(match i.str||i.elm.isSome,ρ x with|true,.agg xs=>(match Fy xs with|some ds=>K (.ifc t ds true) a|none=>False)|true,.d x=>K (.ifc t [x] false) a|_,_=>False)|none=>False
 |.typeAssert x _ t ok=>match T t with|some i=>(match i.str||i.elm.isSome,ρ x with|true,.ifc u ds q=>(match Nat.beq u t,Qr q ds with|true,some v=>K (cond ok (.tup [v,.d (.bool true)]) v) a|_,_=>False)|_,_=>False)|none=>False
 |.makeFunc fn first b=>match fn with|.yield _=>False|fn=>K (.fn fn (first.toList.map ρ) (b.toList.map ρ)) a
 |.slice t x lo hi h=>match T t with|some i=>Ie i H (ρ x) (lo.map ρ) (hi.map ρ) h.isSome g a K|none=>False
 |.lookup t x y e=>match T t with|some i=>Iv i H (ρ x) (ρ y) e g a K|none=>False
 |.build t parts=>match T t,parts.toList.all (fun p=>DZ (ρ p.2))with|some i,true=>Ia i (parts.toList.map fun p=>(p.1,ρ p.2)) a K|_,_=>False
 |.call c=>match c.callee,c.args.toList,c.argTypes.toList with
  |.builtin .len,[x],[t]=>match T t with|some i=>IC i H (ρ x) g a K|none=>False
  |.builtin .min,[x,y],_=>BT false (ρ x) (ρ y) (fun v=>K v a)
  |.builtin .max,[x,y],_=>BT true (ρ x) (ρ y) (fun v=>K v a)
  |.builtin .max,[x,y,z],_=>C4 true (ρ x) (ρ y) (ρ z) (fun v=>K v a)
  |_,_,_=>False
 |_=>False
end Go.Eng
