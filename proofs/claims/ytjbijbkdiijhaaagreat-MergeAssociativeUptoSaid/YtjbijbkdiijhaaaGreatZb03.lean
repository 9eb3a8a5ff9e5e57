import Derived.Test.YtjbijbkdiijhaaaGreatZb02
import Derived.KernelRfl
import Derived.Still
import Derived.IntWalk
import Derived.Test.YtjbijbkdiijhaaaGreatZb00
namespace Go.Eng
set_option linter.all false
open Go Go.RowKit
def args(xs:List AV):Nat→AV:=fun i=>(xs[i]?).getD .top
def Dt(l:Nat)(H:Hp):Hp:=fun k=>if k.1≤l then H k else⟨0,false,0,0,[]⟩
def IU(l:Nat)(H' H:Hp):Hp:=fun k=>if k.1≤l then H' k else H k
def EQ(P:Program)(σ:St):List ResultVar→(List AV→Prop)→Prop
 |[],K=>K []
 |.tmp t::b,K=>EQ P σ b (fun xs=>K (σ.s t::xs))
 |.cell a t::b,K=>EN P σ.H t (σ.s a) (fun x=>EQ P σ b (fun xs=>K (x::xs)))
def DM:List AV→AV
 |[x]=>x
 |xs=>.tup xs
inductive Fz (H:Hp) (l:Nat):AV→AV→Prop
 |keep (x:AV) (h:x.low l=true):Fz H l x x
 |e0:Fz H l .e0 (.d (.list []))
 |mp (k:Af) (a:Bool) (es:List (List D)) (hk:k.1=l+1) (hl:(H k).live=true) (he:(H k).e=.m a es):Fz H l (.mp k (H k).g) (.d (.map a es))
 |ref (k:Af) (off n:Nat) (es:List (List D)) (hk:k.1=l+1) (hl:(H k).live=true) (hn:es.length=n) (hz:(H k).sz≠0) (he:∀e,e∈es→e.length=(H k).sz)
   (hlen:(off+n)*(H k).sz≤(H k).cells.length)
   (h:∀(i j:Nat) (e:List D) (d:D) (x:AV),es[i]?=some e→e[j]?=some d→(H k).cells[(off+i)*(H k).sz+j]?=some x→Fz H l x (.d d)):
   Fz H l (.ref k (H k).g off n) (.d (.list es))
 |agg (xs ys:List AV) (hl:xs.length=ys.length) (h:∀(i:Nat) (x y:AV),xs[i]?=some x→ys[i]?=some y→Fz H l x y):Fz H l (.agg xs) (.agg ys)
 |tup (xs ys:List AV) (hl:xs.length=ys.length) (h:∀(i:Nat) (x y:AV),xs[i]?=some x→ys[i]?=some y→Fz H l x y):Fz H l (.tup xs) (.tup ys)
def xP(P:Program)(fn:Func)(l:Nat)(H:Hp)(a:AV→Hp→Prop):Exit→St→Prop:=fun e σ=>
 (e=.normal∨e=.ret)∧EQ P σ fn.results.toList (fun xs=>∃y,Fz σ.H l (DM xs) y∧a y (IU l σ.H H))
section
variable {P:Program} {l n:Nat} {B:Base} {H H':Hp} {m m':Mu} {S S':Nat→Prop} {w w':World} {s:Nat→AV} {a:Act} {K:St→Prop} {o:Oper} {σ:St} {Q:Exit→St→Prop}
theorem ZqK{t:TypeId}{v b:Value}(h:(Instr.loadAt t v).run P w=.ok b w):(do loadVar t (←asAddr v):Sem Value).run P w=.ok b w:=by
 cases v<;>try (simp[Instr.loadAt,Instr.sureAddr]at h;done)
 rename_i p
 cases p with
 |none=>simp[Instr.loadAt,Instr.sureAddr]at h
 |some a=>simpa[Instr.loadAt,Instr.sureAddr,asAddr]using h
def Pp(tmps:Array Value):ResultVar→Sem Value
 |.tmp t=>pure (tmps.getD t undef)
 |.cell p t=>do loadVar t (←asAddr (tmps.getD p undef))
theorem kr(k:Ok (l+1) H m S w)(c:CX (l+1) s H m S a w):∀(rs:List ResultVar) (K:List AV→Prop),EQ P ⟨s,H⟩ rs K→
  ∃(vs:List Value) (xs:List AV),(rs.mapM (Pp a.tmps)).run P w=.ok vs w∧xs.length=vs.length∧
   (∀(i:Nat) (x:AV) (v:Value),xs[i]?=some x→vs[i]?=some v→RepA w S H m (l+1) x v)∧K xs
 |[],K,h=>⟨[],[],by simp,rfl,fun i x v h=>by simp at h,h⟩
 |.tmp t::b,K,h=>by
  obtain⟨vs,xs,f,g,n,j⟩:=kr k c b _ h
  refine⟨a.tmps.getD t undef::vs,s t::xs,by simp only[S8,Pp,Sem.run_bind,Sem.run_pure,Result.andThen_ok,f],by simp[g],fun i x v hx d=>?_,j⟩
  cases i with
  |zero=>simp at hx d;subst hx;subst d;simpa using c t
  |succ i=>exact n i x v (by simpa using hx) (by simpa using d)
 |.cell p t::b,K,h=>by
  obtain⟨v0,r,o,u,q⟩:=zw h (c p) k
  obtain⟨vs,xs,f,g,n,j⟩:=kr k c b _ q
  refine⟨v0::vs,r::xs,?_,by simp[g],fun i x v hx d=>?_,j⟩
  ·have:=ZqK o
   have e:(Pp a.tmps (.cell p t)).run P w=.ok v0 w:=this
   simp only[S8,Sem.run_bind,e,Sem.run_pure,Result.andThen_ok,f]
  grind
def NM(l:Nat)(H:Hp)(m:Mu)(S:Nat→Prop):Nat→Prop:=fun b=>S b∨∃k:Af,k.1=l+1∧(H k).live=true∧((m k).cap≠0∨(H k).e.isO=true)∧b=(m k).b
theorem Ok.fin(h:Ok (l+1) H m S w):Ok l H m (NM l H m S) w∧Ext l H m S w H m (NM l H m S) w:=by
 have n:Ext (l+1) H m S w H m (NM l H m S) w:=⟨fun _ h=>.inl h,fun _ _=>rfl,fun _ _=>Yf _,fun _ _ _ h=>⟨h,rfl,rfl⟩,rfl,rfl,rfl,Yf _⟩
 refine⟨⟨fun b c=>?_,fun q u=>h.empty q (by omega),fun q u hl g=>?_,fun q z u y=>h.inj q z (by omega) (by omega),fun q u hl g=>?_,
  ⟨fun k p j=>(h.mp.o k (by omega) j).mono (fun _ h=>.inl h) (fun _ _=>rfl) (fun _=>rfl),fun k p j he=>?_,fun k k' p s=>h.mp.i k k' (by omega) (by omega)⟩⟩,n.mono (by omega)⟩
 ·rcases c with c|⟨k,p,hl,g,rfl⟩
  ·exact h.sub b c
  ·rcases g with g|g
   ·obtain⟨C,c,_⟩:=h.blk k (by omega) hl g
    grind
   ·obtain⟨o,c,_⟩:=(h.mp.o k (by omega) hl).at g
    grind
 ·rintro(hs|⟨k,p,f,a,e⟩)
  ·exact h.fresh q (by omega) hl g hs
  ·rcases a with a|a
   ·have:=h.inj q k (by omega) (by omega) hl f g a e
    grind
   ·obtain⟨o,c,r⟩:=(h.mp.o k (by omega) f).at a
    obtain⟨C,d,_⟩:=h.blk q (by omega) hl g
    rw[e,c]at d;cases d;cases r
 ·obtain⟨C,c,hs,t,hx⟩:=h.blk q (by omega) hl g
  exact⟨C,c,hs,t,fun i x v hi j=>⟨(hx i x v hi j).1,(hx i x v hi j).2.ext n (by omega)⟩⟩
 ·refine⟨(h.mp.c k (by omega) j he).1,?_⟩
  rintro(hs|⟨k',s,f,a,e⟩)
  ·exact(h.mp.c k (by omega) j he).2 hs
  ·rcases a with a|a
   ·obtain⟨o,c,r⟩:=(h.mp.o k (by omega) j).at he
    obtain⟨C,d,_⟩:=h.blk k' (by omega) f a
    rw[←e,c]at d;cases d;cases r
   ·have:=h.mp.i k k' (by omega) (by omega) j f he a e
    grind
theorem Fz.sound{x y:AV}(h:Fz H l x y)(Q:Ok (l+1) H m S w):∀{v:Value},RepA w S H m (l+1) x v→RepA w (NM l H m S) H m l y v:=by
 have t:Ext (l+1) H m S w H m (NM l H m S) w:=⟨fun _ h=>.inl h,fun _ _=>rfl,fun _ _=>Yf _,fun _ _ _ h=>⟨h,rfl,rfl⟩,rfl,rfl,rfl,Yf _⟩
 induction h with
 |keep x h=>exact fun hx=>(hx.ext t (Yf _)).low h
 |e0=>
  intro v hx
  cases hx with
  |e0 N=>exact(RepA.e0 N).e0_d
 |mp k a es I hl he=>
  intro v hx
  generalize F:(H k).g=g at hx
  cases hx with
  |mpD _ _ _ p G s o=>rw[s F.symm]at hl;cases hl
  |mpL _ p q=>
   have U:=Q.mp.o k (by omega) hl
   rw[he]at U
   obtain⟨ents,A,o,O⟩:=U
   exact .d _ _ (.ofM (.inr ⟨k,I,hl,.inr (by rw[he];rfl),rfl⟩) o (O.mono (fun _ h=>.inl h) (fun _ _=>rfl)))
 |ref k off n es I hl J hz he f h u=>
  intro v hx
  generalize F:(H k).g=g at hx
  cases hx with
  |refD _ _ _ _ _ p G s o=>rw[s F.symm]at hl;cases hl
  |refL _ _ _ N p q T R=>
   by_cases K:n=0
   ·subst K
    have:es=[]:=I4 J
    subst this
    cases N with
    |none=>
     have e:(m k).cap-off=0:=by
      rcases YF off (m k).cap with h|h
      ·have:=R h;cases this
      ·omega
     rw[e]
     exact .d _ _ .nil
    |some ad=>exact .d _ _ (.list [] ad 0 _ (fun _ _=>.bool true) (fun h=>absurd rfl h) (CK _) (fun _ h=>by cases h) (fun i j e x h=>by simp at h) (fun i j e x h=>by simp at h))
   ·have L:=R (by omega)
    subst L
    obtain⟨E,C,o,O,Z,P⟩:=Q.row (k:=k) (by omega) hl (by
     intro e
     rw[e,Y1]at f
     have:=Tl (show 0<n by omega) (show 0<(H k).sz by omega)
     simp at f
     omega)
    have r:∀(i j:Nat) (e:List D) (d:D),es[i]?=some e→e[j]?=some d→(off+i)*(H k).sz+j<(H k).cells.length:=by
     intro i j e d hi c
     have W:i<n:=by
      rw[←J]
      rcases YF i es.length with h|h
      ·exact h
      ·rw[YM h]at hi;cases hi
     have X:j<(H k).sz:=by
      rw[←he e (Yi hi)]
      rcases YF j e.length with h|h
      ·exact h
      ·rw[YM h]at c;cases c
     have:(off+i+1)*(H k).sz≤(off+n)*(H k).sz:=Ea _ (by omega)
     rw[Y1 (off+i)]at this
     omega
    have:=RepD.list (w:=w) (S:=NM l H m S) es ⟨(m k).b,(m k).o+off*(H k).sz,none⟩ (H k).sz ((m k).cap-off) (fun i j=>(C[(m k).o+((off+i)*(H k).sz+j)]?).getD undef)
     (fun _=>.inr ⟨k,I,hl,.inl E,rfl⟩) (by omega) he
     (fun i j e d hi c=>by
      obtain⟨v,z,_,_⟩:=P _ _ (Ye (r i j e d hi c))
      rw[Addr.add_lit,Jz o,z]
      rw[show(m k).o+off*(H k).sz+(i*(H k).sz+j)=(m k).o+((off+i)*(H k).sz+j)from by rw[Y1];omega,z]
      rfl)
     (fun i j e d hi c=>by
      obtain⟨v,z,Y,V⟩:=P _ _ (Ye (r i j e d hi c))
      rw[z]
      have:=u i j e d _ hi c (Ye (r i j e d hi c)) V
      cases this with
      |d _ _ s=>exact s)
    rw[J]at this
    exact .d _ _ this
 |agg xs ys hl h u=>
  intro v hx
  cases hx with
  |agg _ vs q o B=>
   refine .agg _ _ (by omega) o (fun i y v hy M=>?_)
   have b:i<xs.length:=by
    rw[hl]
    rcases YF i ys.length with h|h
    ·exact h
    ·rw[YM h]at hy;cases hy
   exact u i _ y (Ye b) hy (B i _ v (Ye b) M)
 |tup xs ys hl h u=>
  intro v hx
  cases hx with
  |tup _ vs q B=>
   refine .tup _ _ (by omega) (fun i y v hy M=>?_)
   have b:i<xs.length:=by
    rw[hl]
    rcases YF i ys.length with h|h
    ·exact h
    ·rw[YM h]at hy;cases hy
   exact u i _ y (Ye b) hy (B i _ v (Ye b) M)
theorem ZkM{fn:Func}{KK:List AV→Prop}(j:Ok (l+1) H m S w)(k:CX (l+1) s H m S a w)(h:EQ P ⟨s,H⟩ fn.results.toList KK):
  ∃v xs,(results fn a.tmps).run P w=.ok v w∧RepA w S H m (l+1) (DM xs) v∧KK xs:=by
 obtain⟨vs,xs,d,c,b,g⟩:=kr j k _ _ h
 have o:∀f:ResultVar→Sem Value,(∀r,f r=Pp a.tmps r)→(fn.results.mapM f).run P w=.ok vs.toArray w:=by
  intro f n
  have:f=Pp a.tmps:=funext n
  subst this
  rw[rh]
  simp[d]
 refine⟨if h:vs.toArray.size=1 then vs.toArray[0]else .tuple vs.toArray,xs,?_,?_,g⟩
 ·unfold results
  simp only[Sem.run_bind]
  rw[o _ (fun r=>by cases r<;>rfl)]
  simp
 ·match xs,vs,c,b with
  |[x],[v],_,b=>exact b 0 x v rfl rfl
  |[],[],_,_=>exact .tup _ _ rfl (fun i x v h=>by simp[DM]at h)
  |x::x'::xs,v::q::vs,c,b=>
   have e:¬((v::q::vs).toArray.size=1):=by simp
   rw[dif_neg e]
   exact .tup _ _ (by simpa using c) (fun i x v hx p=>b i x v hx (by simpa using p))
theorem ZxI{P:Program}{f:FuncId}{fn:Func}{c:Code}{n l:Nat}{xs:List AV}{H:Hp}{s:AV→Hp→Prop}(hf:P.funcs[f]?=some fn)(hb:fn.body=some c)(G:(fn.name== "runtime.NumGoroutine")=false)
  (hn:fn.ntmps=n) (hx:xs.length≤n) (h:∀B:Base,BR P l n B c (xP P fn l H s) ⟨args xs,Dt l H⟩):Zc1 P f l xs H s:=by
 refine⟨⟨fn,c,hf,hb,G⟩,fun m S w vs K j=>?_⟩
 have a:∀k:Af,k.1≤l→Dt l H k=H k:=fun k g=>by unfold Dt;rw[Ym g]
 have hdead:∀k:Af,¬k.1≤l→(Dt l H k).live=false:=fun k g=>by unfold Dt;rw[Yk g]
 have u:∀k:Af,(Dt l H k).live=true→k.1≤l:=fun k hl=>by
  grind
 have X:Ok (l+1) (Dt l H) m S w:=by
  refine⟨K.sub,fun q d hl o=>?_,fun q d hl o=>?_,fun q M d I hl t o J heq=>?_,fun q d hl o=>?_,
   K.mp.stepL (fun q _ hl _=>by have:=u q hl;rw[a q this]at hl⊢;exact⟨this,hl,rfl,rfl⟩) (fun _ h=>h) (fun _ h=>.inl h) (fun _ _=>rfl) (fun _ _ h _=>h)⟩
  ·have:=u q hl;rw[a q this]at hl⊢;exact K.empty q this hl o
  ·have:=u q hl;rw[a q this]at hl;exact K.fresh q this hl o
  ·have e:=u q hl
   have e':=u M t
   rw[a q e]at hl;rw[a M e']at t
   exact K.inj q M e e' hl t o J heq
  ·have e:=u q hl
   rw[a q e]at hl⊢
   obtain⟨C,U,V,W,T⟩:=K.blk q e hl o
   exact⟨C,U,V,W,fun i x v hi O=>⟨(T i x v hi O).1,(T i x v hi O).2.agree (fun k g=>a k (by omega)) (fun _ _=>rfl)⟩⟩
 have hE:Ext l H m S w (Dt l H) m S w:=⟨fun _ h=>h,fun _ _=>rfl,fun k g=>by rw[a k g];exact Yf _,fun k g _ hl=>by rw[a k g]at hl⊢;exact⟨hl,rfl,rfl⟩,rfl,rfl,rfl,Yf _⟩
 have hR:R l n ⟨H,m,S,w⟩ ⟨args xs,Dt l H⟩ {tmps:=vs++Array.replicate (fn.ntmps-vs.size) undef,defers:=[] } w:=by
  refine⟨m,S,X,by simp[hn];rw[←j.1];omega,rfl,fun i=>?_,hE⟩
  simp only[args]
  cases hi:xs[i]? with
  |none=>exact .top _
  |some x=>
   have hlt:i<xs.length:=by
    grind
   have D:i<vs.size:=by rw[←j.1];exact hlt
   rw[Yz,aJ D,Yw D]
   exact((j.2 i x _ hi (Yw D)).agree (fun k g=>a k g) (fun _ _=>rfl)).lvl (Nat.le_succ l)
 refine calls_of_wp hf hb (wp_mono (h ⟨H,m,S,w⟩ _ w hR) fun e a' w' ⟨σ',d,Y⟩=>?_)
 obtain⟨s',H'⟩:=σ'
 obtain⟨m',S',A,hn',hd',Z,N⟩:=Y.un
 have done:EQ P ⟨s',H'⟩ fn.results.toList (fun xs=>∃y,Fz H' l (DM xs) y∧s y (IU l H' H))→a'.defers=[]∧∃v,(results fn a'.tmps).run P w'=.ok v w'∧
   (∃r Q p E z,Ending.returned v=.returned Q∧s r p∧Ok l p E z w'∧RepA w' z p E l r Q∧Ext l H m S w p E z w'):=by
  intro hr
  obtain⟨v,xs,U,V,y,W,T⟩:=ZkM A Z hr
  obtain⟨L,k2⟩:=A.fin
  have b:∀k:Af,k.1≤l→IU l H' H k=H' k:=fun k g=>by unfold IU;rw[Ym g]
  refine⟨hd',v,U,y,v,IU l H' H,m',_,rfl,T,?_,(W.sound A V).agree b (fun _ _=>rfl),?_⟩
  ·refine⟨L.sub,fun q d hl o=>?_,fun q d hl o=>?_,fun q M d I hl t o J heq=>?_,fun q d hl o=>?_,
    L.mp.step (Yf _) (fun q d hl _=>by rw[b q d]at hl⊢;exact⟨hl,rfl,rfl⟩) (fun _ h=>h) (fun _ h=>.inl h) (fun _ _=>rfl) (fun _ _ h _=>h)⟩
   ·rw[b q d]at hl⊢;exact L.empty q d hl o
   ·rw[b q d]at hl;exact L.fresh q d hl o
   ·rw[b q d]at hl;rw[b M I]at t;exact L.inj q M d I hl t o J heq
   ·rw[b q d]at hl⊢
    obtain⟨C,g1,g2,g3,g4⟩:=L.blk q d hl o
    exact⟨C,g1,g2,g3,fun i x v hi O=>⟨(g4 i x v hi O).1,(g4 i x v hi O).2.agree (fun k g=>b k (by omega)) (fun _ _=>rfl)⟩⟩
  ·have F:=Ext.trans (show Ext l H m S w H' m' S' w' from N) k2
   exact⟨F.s,F.blk,fun k g=>by rw[b k g];exact F.g k g,fun k g hg hl=>by rw[b k g]at hg hl⊢;exact F.live k g hg hl,F.os,F.tape,F.output,F.size⟩
 rcases d.1 with rfl|rfl
 ·exact done d.2
 ·exact done d.2
end
end Go.Eng
namespace Go.Eng
set_option linter.all false
open Go Go.RowKit
section
variable {P:Program} {l n:Nat} {ds:List (Option Nat)} {ops rest:List Oper} {K:St→Prop} {s:Nat→AV} {H:Hp} {d:Option Nat} {op:Op} {ty:TypeId} {ps:String} {af:Array Edge} {g:Option (Nat×Bool)}
variable {x y:Operand} {t:TypeId}
theorem nC{l:Nat}{H:Hp}{k:Af}(h:k.1≤l):Dt l H k=H k:=by unfold Dt;rw[Ym h]
theorem ZHI{l:Nat}{H:Hp}{i:Nat}:Dt l H (l+1,i)=⟨0,false,0,0,[]⟩:=by unfold Dt;rw[Yk (by simp)]
end
def CC(o:Oper):Bool:=o.dst.isSome&&match o.op with
 |.call c=>match c.callee with
  |.value _=>true
  |.builtin .len|.builtin .min|.builtin .max=>true
  |_=>false
 |.binOp _ _ _ y _=>!JI y
 |.alloc _|.box _ _|.store _ _ _|.buildSlice _ _ _|.makeSlice _ _ _|.makeMap _ _|.range _ _|.next _ _|.entry _=>false
 |_=>true
def ia(o:Oper):Bool:=match o.op with
 |.buildSlice _ (_+1) _=>true
 |_=>false
def C9(o:Oper):Bool:=CC o||(o.dst.isSome&&ia o)
def ye(P:Program)(t:TypeId)(len:Nat)(ps:List (Nat×AV))(v:AV):Prop:=
 ∃e sz z es,elm P t=some (e,sz)∧sz≠0∧(len+1)*sz≤16777216∧zer P e=some z∧z.length=sz∧Gf sz 0 ps=some es∧es.length=len+1∧v=.d (.list es)
def qV(P:Program)(l:Nat)(H:Hp)(o:Oper)(ρ:Operand→AV)(v:AV):Prop:=
 match o.op with
 |.buildSlice t (len+1) parts=>ye P t len (parts.toList.map fun p=>(p.1,ρ p.2)) v
 |.call c=>match c.callee with
  |.value f=>match ρ f with
   |.fn (.func g) first a=>Zc1 P g (l+1) (first++c.args.toList.map ρ++a) H (fun y b=>y=v∧b=H)
   |_=>False
  |_=>Be P H o.op ρ (fun y=>y=v)
 |_=>Be P H o.op ρ (fun y=>y=v)
def Gb(P:Program)(l n:Nat)(o:Oper)(K:St→Prop)(σ:St):Prop:=
 match o.op with
 |.buildSlice t (len+1) parts=>∃v,ye P t len (parts.toList.map fun p=>(p.1,ev σ.s p.2)) v∧CF n o.dst K σ v
 |.call c=>match c.callee with
  |.value f=>match ev σ.s f with
   |.fn (.func g) first a=>∃r,Zc1 P g (l+1) (first++c.args.toList.map (ev σ.s)++a) σ.H (fun y b=>y=r∧b=σ.H)∧CF n o.dst K σ r
   |_=>False
  |_=>BI P l n o K σ
 |_=>BI P l n o K σ
def D3(P:Program)(l n:Nat)(ds:List (Option Nat)):List Oper→(St→Prop)→St→Prop
 |[],K,σ=>K σ
 |o::a,K,σ=>match o.guard with
  |none=>Gb P l n o (D3 P l n ds a K) σ
  |some (i,b)=>match IT σ.s ds i b with
   |some t=>(t=true→Gb P l n o (D3 P l n ds a K) σ)∧(t=false→match o.dst with|some d=>d<n∧D3 P l n ds a K ⟨upd σ.s d (.tup []),σ.H⟩|none=>False)
   |none=>False
section
variable {P:Program} {l n:Nat} {B:Base} {H:Hp} {K K':AV→Prop} {t:TypeId} {x y:AV} {ρ ρ':Operand→AV}
theorem ZmU{op:BinOp}{k:IntKind}{a b:Int}(h:∀v,K v→K' v)(c:GR op k a b K):GR op k a b K':=by
 cases op<;>simp only[GR]at c⊢<;>first|exact h _ c|exact⟨c.1,h _ c.2⟩|exact c
theorem zU{op:BinOp}{a b:ByteArray}(h:∀v,K v→K' v)(c:GU op a b K):GU op a b K':=by
 cases op<;>simp only[GU]at c⊢<;>first|exact h _ c|exact⟨c.1,h _ c.2⟩|exact c
theorem Zyb{op:BinOp}{k:IntKind}{a b:Int}(c:GR op k a b K):∃v,GR op k a b (fun y=>y=v)∧K v:=by
 cases op<;>simp only[GR]at c⊢<;>first|exact⟨_,rfl,c⟩|exact⟨_,⟨c.1,rfl⟩,c.2⟩|exact c.elim
theorem ZAq{op:BinOp}{a b:ByteArray}(c:GU op a b K):∃v,GU op a b (fun y=>y=v)∧K v:=by
 cases op<;>simp only[GU]at c⊢<;>first|exact⟨_,rfl,c⟩|exact⟨_,⟨c.1,rfl⟩,c.2⟩|exact c.elim
theorem Zur(h:EN P H t x K):∃v,EN P H t x (fun y=>y=v)∧K v:=by
 unfold EN at h⊢
 split at h
 ·grind
 ·grind
 grind
theorem Zjk{i:Nat}(h:Fc P H t i x K):∃v,Fc P H t i x (fun y=>y=v)∧K v:=by
 unfold Fc at h⊢
 grind
theorem ZqN{i:Nat}(h:Fg P t i x K):∃v,Fg P t i x (fun y=>y=v)∧K v:=by
 unfold Fg at h⊢
 split at h
 ·split at h
  ·grind
  grind
 grind
theorem Zjh(h:EB P H t x y K):∃v,EB P H t x y (fun y=>y=v)∧K v:=by
 unfold EB at h⊢
 grind
theorem Zre(h:FU P t x y K):∃v,FU P t x y (fun y=>y=v)∧K v:=by
 unfold FU at h⊢
 grind
theorem Zz6{op:BinOp}{xs ys:List AV}(h:HA P op t xs ys K):∃v,HA P op t xs ys (fun y=>y=v)∧K v:=by
 unfold HA at h⊢
 split at h
 ·grind
 grind
theorem ZAs{op:BinOp}(h:CR P H op t false x y K):∃v,CR P H op t false x y (fun y=>y=v)∧K v:=by
 unfold CR at h⊢
 split at h
 ·obtain⟨v,a,b⟩:=Zyb h.2;exact⟨v,⟨h.1,a⟩,b⟩
 ·exact ZAq h
 ·grind
 ·exact Zz6 h
 ·cases h.1
 grind
theorem ZE3{op:UnOp}(h:EV op x K):∃v,EV op x (fun y=>y=v)∧K v:=by
 unfold EV at h⊢
 grind
theorem Zvb{u:TypeId}(h:Fh P t u x K):∃v,Fh P t u x (fun y=>y=v)∧K v:=by
 unfold Fh at h⊢
 grind
theorem Zq4{lo hi:Option AV}{a:Bool}(h:EG P H t x lo hi a K):∃v,EG P H t x lo hi a (fun y=>y=v)∧K v:=by
 unfold EG at h⊢
 grind
theorem ZAk(h:D0 P H t x K):∃v,D0 P H t x (fun y=>y=v)∧K v:=by
 unfold D0 at h⊢
 grind
theorem Zrp{ps:List (Nat×AV)}(h:FR P t ps K):∃v,FR P t ps (fun y=>y=v)∧K v:=by
 unfold FR at h⊢
 grind
theorem ZKk{op:Op}(g:∀o t x y u,op=.binOp o t x y u→JI y=false)(h:Be P H op ρ K):∃v,Be P H op ρ (fun y=>y=v)∧K v:=by
 cases op<;>simp only[Be]at h⊢<;>try exact h.elim
 case move x=>exact⟨_,rfl,h⟩
 case assign x=>exact⟨_,rfl,h⟩
 case pick c a b=>
  split at h
  ·grind
  ·grind
 case load=>exact Zur h
 case fieldAddr=>exact Zjk h
 case field=>exact ZqN h
 case indexAddr=>exact Zjh h
 case index=>exact Zre h
 case extract=>
  split at h
  ·grind
  ·grind
 case binOp o t x y u=>
  rw[g _ _ _ _ _ rfl]at h⊢
  exact ZAs h
 case unOp=>exact ZE3 h
 case convert=>exact Zvb h
 case nilCheck=>
  unfold Jo at h⊢
  split at h
  ·grind
  ·grind
  ·grind
 case makeFunc=>exact⟨_,rfl,h⟩
 case makeInterface=>
  obtain⟨d,h⟩:=h
  repeat' split at h
  all_goals first|exact h.elim|exact⟨_,⟨d,rfl⟩,h⟩
 case typeAssert=>
  obtain⟨d,h⟩:=h
  repeat' split at h
  all_goals first|exact h.elim|exact⟨_,⟨d,h.1,rfl⟩,h.2⟩
 case slice=>exact Zq4 h
 case build=>exact Zrp h
 case lookup=>exact Zw2 h
 case call c=>
  split at h
  ·obtain⟨v,e,f⟩:=ZAk h.2;exact⟨v,⟨h.1,e⟩,f⟩
  ·split at h
   ·unfold Ey at h⊢
    grind
   ·unfold Hq at h⊢
    grind
   grind
  ·grind
theorem Zp1{op:Op}(e:∀o t x y u,op=.binOp o t x y u→JI y=false){v:AV}(d:K v)(h:Be P H op ρ (fun y=>y=v)):Be P H op ρ K:=by
 have:(fun y=>y=v)=(fun y=>y=v∧K v):=by funext y;simp[d]
 rw[this]at h
 clear this d
 cases op<;>simp only[Be]at h⊢<;>try exact h.elim
 case move x=>exact h.1▸h.2
 case assign x=>exact h.1▸h.2
 case pick c a b=>
  split at h
  ·grind
  ·grind
 case load t x=>
  unfold EN at h⊢
  split at h
  ·grind
  ·grind
  ·grind
 case fieldAddr=>
  unfold Fc at h⊢
  split at h
  ·grind
  ·grind
  ·grind
 case field=>
  unfold Fg at h⊢
  split at h
  ·split at h
   ·grind
   grind
  ·grind
 case indexAddr=>
  unfold EB at h⊢
  split at h
  ·grind
  ·grind
  ·grind
 case index=>
  unfold FU at h⊢
  split at h
  ·grind
  ·grind
 case makeInterface=>
  refine⟨h.1,?_⟩
  replace h:=h.2
  repeat' split at h
  all_goals first|exact h.elim|exact h.1▸h.2
 case typeAssert=>
  refine⟨h.1,?_⟩
  replace h:=h.2
  repeat' split at h
  all_goals first|exact h.elim|exact⟨h.1,h.2.1▸h.2.2⟩
 case extract=>
  split at h
  ·grind
  ·grind
 case binOp o t x y u=>
  rw[e _ _ _ _ _ rfl]at h⊢
  unfold CR at h⊢
  split at h
  ·exact⟨h.1,ZmU (fun y (hy:y=v∧K v)=>hy.1▸hy.2) h.2⟩
  ·exact zU (fun y (hy:y=v∧K v)=>hy.1▸hy.2) h
  ·grind
  ·unfold HA at h⊢
   split at h
   ·split at h
    ·grind
    grind
   grind
  ·cases h.1
  ·grind
 case unOp=>
  unfold EV at h⊢
  split at h<;>grind
 case nilCheck=>
  unfold Jo at h⊢
  split at h
  ·grind
  ·grind
  ·grind
 case convert=>
  unfold Fh at h⊢
  split at h
  ·grind
  ·grind
  ·grind
 case makeFunc=>exact h.1▸h.2
 case slice=>
  unfold EG at h⊢
  split at h
  ·grind
  ·grind
  ·grind
  ·grind
 case build=>
  unfold FR at h⊢
  split at h
  ·grind
  ·grind
 case lookup=>exact Zmy (fun y (hy:y=v∧K v)=>hy.1▸hy.2) h
 case call c=>
  split at h
  ·refine⟨h.1,?_⟩
   replace h:=h.2
   unfold D0 at h⊢
   grind
  ·split at h
   ·unfold Ey at h⊢
    grind
   ·unfold Hq at h⊢
    grind
   grind
  ·grind
theorem kY{o:Oper}(h:C9 o=true)(a:∀t len ps,o.op=.buildSlice t (len+1) ps→False):CC o=true:=by
 unfold C9 at h
 rw[YI]at h
 rcases h with h|h
 ·exact h
 ·exfalso
  unfold ia at h
  split at h
  ·rename_i e;exact a _ _ _ e
  ·simp at h
theorem kI{o:Oper}(a:C9 o=true):∀b t x y u,o.op=.binOp b t x y u→JI y=false:=by
 intro b t x y u h
 simp only[C9,ia,CC,h,Mf,aL,Yb,YJ]at a
 exact a.2
theorem ZoV{o:Oper}{v:AV}(h:∀x∈o.op.operands,ρ x=ρ' x)(a:qV P l H o ρ v):qV P l H o ρ' v:=by
 obtain⟨k,op,type,pos,after,guard⟩:=o
 have d:∀g:Array Operand,(∀x∈g,ρ x=ρ' x)→g.toList.map ρ=g.toList.map ρ':=fun g j=>Eb fun x hx=>j x (by simpa using hx)
 cases op<;>simp only[Op.operands]at h<;>simp only[qV,Be]at a⊢<;>try exact a
 case call c=>
  have j:c.args.toList.map ρ=c.args.toList.map ρ':=d _ fun x hx=>h x (by simp[Call.operands,hx])
  cases i:c.callee with
  |value f=>
   have y:ρ f=ρ' f:=h f (by simp[Call.operands,i])
   grind
  |invoke r m=>simp only[i]at a
  |builtin b=>
   simp only[i]at a⊢
   split at a
   ·rename_i x t w q u
    rw[←h x (by simp[Call.operands,i,ry q])]
    exact a
   ·grind
   grind
 case build t ps=>
  have:(ps.toList.map fun p=>(p.1,ρ p.2))=ps.toList.map fun p=>(p.1,ρ' p.2):=Eb fun p s=>by
   grind
  rw[←this];exact a
 case buildSlice t n ps=>
  cases n with
  |zero=>exact a
  |succ n=>
   have:(ps.toList.map fun p=>(p.1,ρ p.2))=ps.toList.map fun p=>(p.1,ρ' p.2):=Eb fun p s=>by
    grind
   simp only at a⊢
   rw[←this];exact a
 case makeFunc fn first e=>
  rw[←d first fun x hx=>h x (by simp[hx]),←d e fun x hx=>h x (by simp[hx])];exact a
 case slice t x lo hi z=>
  rw[←h x (by simp),show lo.map ρ'=lo.map ρ from by cases lo<;>simp_all,show hi.map ρ'=hi.map ρ from by cases hi<;>simp_all];exact a
 all_goals(first|(simp_all;done))
theorem Zpq{o:Oper}{s:Nat→AV}{K:St→Prop}(a:C9 o=true)(h:Gb P l n o K ⟨s,H⟩):∃d v,o.dst=some d∧d<n∧qV P l H o (ev s) v∧K ⟨upd s d v,H⟩:=by
 have m:∃d,o.dst=some d:=by
  have:o.dst.isSome=true:=by
   unfold C9 CC at a
   rw[YI,Yb,Yb]at a
   rcases a with h|h
   ·exact h.1
   ·exact h.1
  exact YP.1 this
 obtain⟨d,m⟩:=m
 have i:Be P H o.op (ev s) (CF n o.dst K ⟨s,H⟩)→(∀v,Be P H o.op (ev s) (fun y=>y=v)→qV P l H o (ev s) v)→∃d v,o.dst=some d∧d<n∧qV P l H o (ev s) v∧K ⟨upd s d v,H⟩:=fun h p=>by
  obtain⟨v,q,b⟩:=ZKk (kI a) h
  rw[m]at b
  exact⟨d,v,m,b.1,p v q,b.2⟩
 unfold Gb at h
 split at h
 ·rename_i z
  obtain⟨v,q,b⟩:=h
  rw[m]at b
  refine⟨d,v,m,b.1,?_,b.2⟩
  unfold qV
  rw[z]
  exact q
 ·rename_i c j
  replace a:CC o=true:=kY a fun t n ps e=>by rw[j]at e;cases e
  split at h
  ·rename_i f w
   simp only[]at h
   split at h
   ·rename_i g first A B
    obtain⟨r,q,b⟩:=h
    rw[m]at b
    refine⟨d,r,m,b.1,?_,b.2⟩
    simp only[qV,j,w,B]
    exact q
   ·exact h.elim
  ·rename_i w
   refine i ?_ ?_
   ·unfold BI at h
    simp only[j]at h
    simp only[CC,j,Yb]at a
    split at h
    ·rename_i f x;exact absurd x (w f)
    ·rename_i u;rw[u]at a;simp at a
    ·rw[j];exact h
   ·intro v p
    unfold qV
    rw[j]at p⊢
    cases k:c.callee with
    |value f=>exact absurd k (w f)
    |_=>simpa[k]using p
 ·rename_i u j
  replace a:CC o=true:=kY a fun t n ps e=>u _ _ _ e
  refine i ?_ ?_
  ·unfold BI at h
   split at h
   ·rename_i he;simp[CC,he]at a
   ·rename_i he;simp[CC,he]at a
   ·rename_i he;simp[CC,he]at a
   ·rename_i he;simp[CC,he]at a
   ·rename_i he;simp[CC,he]at a
   ·rename_i c he;exact absurd he (j c)
   ·exact h
  ·intro v p
   unfold qV
   split
   ·rename_i he;exact absurd he (u _ _ _)
   ·rename_i c he;exact absurd he (j c)
   ·exact p
theorem ZMY{o:Oper}{s:Nat→AV}{v:AV}{d:Nat}(q:C9 o=true)(b:o.dst=some d)(a:d<n)(h:qV P l H o (ev s) v):C6 P l n B o (fun E=>E=⟨upd s d v,H⟩) ⟨s,H⟩:=by
 unfold qV at h
 split at h
 ·rename_i t len parts k
  obtain⟨e,sz,z,G,i,j,u,w,x,y,A,rfl⟩:=h
  exact zf k b i j u w x y A a rfl
 ·rename_i c C
  split at h
  ·rename_i f p
   split at h
   ·rename_i g first m D
    refine Zon C p D (h.mono fun r F ⟨i,j⟩=>?_)
    subst i;subst j
    rw[b]
    exact⟨a,rfl⟩
   grind
  ·rename_i p
   exact Ws (Zp1 (kI q) (by rw[b];exact⟨a,rfl⟩) h)
 ·exact Ws (Zp1 (kI q) (by rw[b];exact⟨a,rfl⟩) h)
end
section
variable {P:Program} {l n:Nat} {B:Base} {H:Hp} {ops:Array Oper} {md:Region.Mode} {Q:(Nat→AV)→Prop}
def YA(P:Program)(l:Nat)(H:Hp)(ops:Array Oper)(o:Oper)(s:Nat→AV)(v:AV):Prop:=
 match o.guard with
 |none=>qV P l H o (ev s) v
 |some (i,b)=>match IT s (ops.toList.map (·.dst)) i b with
  |some t=>(t=true→qV P l H o (ev s) v)∧(t=false→v=.tup [])
  |none=>False
theorem tn{o:Oper}{s:Nat→AV}{v u:AV}{d:Nat}(k:d∉o.looksAt ops)(h:YA P l H ops o (upd s d u) v):YA P l H ops o s v:=by
 have f:∀x∈o.op.operands,ev (upd s d u) x=ev s x:=fun x hx=>by
  cases x with
  |tmp t=>
   have c:t≠d:=fun e=>k (by
    subst e
    exact HM _ (List.mem_filterMap.2 ⟨.tmp t,by simpa using hx,rfl⟩))
   simp[ev,upd,c]
  |_=>rfl
 unfold YA at*
 cases j:o.guard with
 |none=>simp only[j]at h⊢;exact ZoV f h
 |some m=>
  obtain⟨i,b⟩:=m
  simp only[j]at h⊢
  have g:IT (upd s d u) (ops.toList.map (·.dst)) i b=IT s (ops.toList.map (·.dst)) i b:=by
   unfold IT
   simp only[YS,YE]
   cases n:ops[i]? with
   |none=>rfl
   |some p=>
    cases a:p.dst with
    |none=>simp[a]
    |some t=>
     have c:t≠d:=fun e=>k (by subst e;simp[Oper.looksAt,j,n,a])
     simp[a,upd,c]
  rw[g]at h
  split at h
  ·rename_i t q
   exact⟨fun e=>ZoV f (h.1 e),h.2⟩
  ·exact h
theorem ZKq{o:Oper}{s:Nat→AV}{v u:AV}{d:Nat}(a:d∉o.looksAt ops)(h:YA P l H ops o s v):YA P l H ops o (upd s d u) v:=by
 refine tn (d:=d) (u:=s d) a ?_
 have:upd (upd s d u) d (s d)=s:=by funext j;unfold upd;split<;>simp_all
 grind
theorem Zzs{s:Nat→AV}{d e:Nat}{u v:AV}(h:d≠e):upd (upd s d u) e v=upd (upd s e v) d u:=by
 funext j
 unfold upd
 grind
end
def Mm(P:Program)(t:TypeId)(i:Nat):Option (Nat×Nat×Bool):=
 match P.underlying t with
 |some (.struct a)=>(a[i]?).bind fun f=>(DI P f.type).map fun b=>(f.offset,P.cellsOf f.type,b)
 |_=>none
def O1(o:Option (Nat×Nat×Bool))(x:AV)(K:AV→Prop):Prop:=
 match o,x with
 |some (o,n,true),.agg cs=>n≠0∧K (.agg ((cs.drop o).take n))
 |some (o,_,false),.agg cs=>(match cs[o]? with|some c=>K c|none=>False)
 |_,_=>False
theorem Zxl{P:Program}{t:TypeId}{i:Nat}{x:AV}{K:AV→Prop}:Fg P t i x K=O1 (Mm P t i) x K:=by
 unfold Fg Mm
 cases x with
 |agg cs=>
  cases j:P.underlying t with
  |none=>rfl
  |some d=>
   cases d with
   |struct a=>
    simp only
    cases g:a[i]? with
    |none=>rfl
    |some f=>
     simp only[Yc]
     cases c:DI P f.type with
     |none=>rfl
     |some b=>cases b<;>rfl
   |_=>rfl
 |_=>
  have e:∀(o:Option (Nat×Nat×Bool)) (y:AV),(∀cs,y≠.agg cs)→O1 o y K=False:=fun o y h=>by
   unfold O1
   grind
  grind
structure fins (P:Program) (l:Nat) (H:Hp) (rs:List ResultVar) (Post:AV→Hp→Prop) (e:Exit) (σ:St):Prop where
 he:e=.normal∨e=.ret
 hy:EQ P σ rs (fun xs=>∃y,Fz σ.H l (DM xs) y∧Post y (IU l σ.H H))
inductive Fit:D→Prop
 |int (k:IntKind) (n:Int):Fit (.int k n)
 |bool (b:Bool):Fit (.bool b)
 |str (s:ByteArray) (h:s.size<2147483648):Fit (.str s)
 |list (es:List (List D)) (hl:es.length<2147483648) (h:∀e∈es,∀x∈e,Fit x):Fit (.list es)
def Kr(l:List D):Prop:=∀d∈l,Fit d
theorem Fit.len{α:Type}{e:α→List D}{xs:List α}(h:Fit (.list (xs.map e))):xs.length<2147483648:=by
 cases h with|list _ hl h=>simpa using hl
theorem Fit.mem{α:Type}{e:α→List D}{xs:List α}(h:Fit (.list (xs.map e))){x:α}(hx:x∈xs):Kr (e x):=by
 cases h with|list _ hl h=>exact h _ (aE hx)
theorem Fit.el{α:Type}{e:α→List D}{xs:List α}(h:Fit (.list (xs.map e))){i:Nat}{x:α}(hx:xs[i]?=some x):Kr (e x):=h.mem (Yi hx)
theorem Kr.at{l:List D}(h:Kr l)(i:Nat){d:D}(hi:l[i]?=some d):Fit d:=h d (Yi hi)
theorem Kr.sub{l:List D}(h:Kr l)(i n:Nat){m:List D}(hi:(l.drop i).take n=m):Kr m:=by
 subst hi
 exact fun d a=>h d (ay (az a))
def nrm:AV→AV
 |.e0=>.d (.list [])
 |.agg xs=>.agg (xs.map fun x=>match x with|.e0=>.d (.list [])|x=>x)
 |x=>x
section
variable {P:Program} {l n:Nat} {B:Base} {H H':Hp} {K:St→Prop} {σ σ':St} {Q:Exit→St→Prop} {s:Nat→AV} {ds:List (Option Nat)} {d:Option Nat} {op:Op} {ty:TypeId} {ps:String} {af:Array Edge} {rest:List Oper}
 {g:Option (Nat×Bool)} {x y:Operand} {t:TypeId}
theorem kV{a b:Code}(h:BR P l n B a (vQ (BR P l n B b Q) Q) σ):BR P l n B (.seq a b) Q σ:=ZIW fun _ c=>H6 h fun e σ' h=>by
 cases e<;>first|exact c σ' h|exact h
theorem M7{a:Int}{i:Nat}(h:a=(i:Int))(hi:i<9223372036854775808):IntKind.wrap .i64 a=(i:Int):=by
 subst h
 exact IntWalk.i64_in _ ⟨by omega,by omega⟩
theorem Zyg{f:FuncId}{fn:Func}(g:List ResultVar){c:Code}{xs:List AV}{a:AV→Hp→Prop}(j:P.funcs[f]?=some fn)(i:fn.body=some c)(b:(fn.name== "runtime.NumGoroutine")=false)
  (k:fn.ntmps=n) (m:fn.results.toList=g) (hx:xs.length≤n) (h:∀B:Base,BR P l n B c (fins P l H g a) ⟨args xs,Dt l H⟩):Zc1 P f l xs H a:=by
 refine ZxI j i b k hx fun B=>H6 (h B) fun e σ d=>?_
 unfold xP
 rw[m]
 exact⟨d.he,d.hy⟩
theorem Fz.data{xs:List D}:Fz H' l (.agg (xs.map .d)) (.agg (xs.map .d)):=
 .agg _ _ rfl fun i x y hx hy=>by
  rw[hx]at hy;cases hy
  rw[YS]at hx
  cases hi:xs[i]? with
  |none=>rw[hi]at hx;cases hx
  |some d=>rw[hi]at hx;cases hx;exact .keep _ rfl
theorem Fz.pure{xs:List AV}{ds:List D}(h:DF xs=some ds):Fz H' l (.agg xs) (.agg (ds.map .d)):=
 .agg _ _ (by rw[YH];exact kM h) fun i x y hx hy=>by
  rw[YS]at hy
  cases hi:ds[i]? with
  |none=>rw[hi]at hy;cases hy
  |some d=>
   rw[hi]at hy;cases hy
   have:=ZoO h hx hi
   cases x<;>simp only[GH]at this<;>cases this
   ·exact .keep _ rfl
   ·exact .e0
theorem Fz.d'{x:AV}{y:D}(h:x=.d y):Fz H' l x (.d y):=by subst h;exact .keep _ rfl
theorem Fz.two{x y x' e:AV}(hx:Fz H' l x x')(hy:Fz H' l y e):Fz H' l (DM [x,y]) (.tup [x',e]):=
 .tup _ _ rfl fun i a b c d=>by
  match i with
  |0=>cases c;cases d;exact hx
  |1=>cases c;cases d;exact hy
  |i+2=>simp at c
theorem Fz.one{x x':AV}(hx:Fz H' l x x'):Fz H' l (DM [x]) x':=hx
theorem RepA.nrm{S:Nat→Prop}{m:Mu}{w:World}{x:AV}{v:Value}(h:RepA w S H m l x v):RepA w S H m l (nrm x) v:=by
 cases x with
 |e0=>exact h.e0_d
 |agg xs=>
  cases h with
  |agg _ vs hx a h=>
   refine .agg _ _ (by simpa using hx) a (fun i y v hy b=>?_)
   rw[YS]at hy
   cases hi:xs[i]? with
   |none=>rw[hi]at hy;cases hy
   |some x=>
    rw[hi]at hy
    simp only[YZ,Yj]at hy
    subst hy
    have:=h i x v hi b
    split
    ·exact this.e0_d
    grind
 |_=>exact h
theorem Zc1.nrm{f:FuncId}{xs:List AV}{a:AV→Hp→Prop}(h:Zc1 P f l (xs.map nrm) H a):Zc1 P f l xs H a:=
 ⟨h.1,fun m S w vs c b=>h.2 m S w vs c ⟨by simpa using b.1,fun i x v hx d=>by
  rw[YS]at hx
  cases hi:xs[i]? with
  |none=>rw[hi]at hx;cases hx
  |some y=>
   rw[hi]at hx
   simp only[YZ,Yj]at hx
   subst hx
   exact(b.2 i y v hi d).nrm⟩⟩
end
def QY:List Operand→List Nat
 |[]=>[]
 |.tmp t::r=>t::QY r
 |_::r=>QY r
def Ms:List (Option Nat)→Nat→Option Nat
 |[],_=>none
 |x::_,0=>x
 |_::r,i+1=>Ms r i
def FW(ds:List (Option Nat))(o:Oper):List Nat:=
 QY o.op.operands.toList++match o.guard with
  |some (g,_)=>(match Ms ds g with|some d=>[d]|none=>[])
  |none=>[]
def FY:List (Nat×Nat)→Nat→Option Nat
 |[],_=>none
 |(d,k)::r,t=>match Nat.beq d t with|true=>some k|false=>FY r t
def Ch(o:Oper)(i:Nat):Bool:=o.after.toList.any fun e=>Region.binds .any e&&Nat.beq e.on i
def clear(o:Oper)(d:Nat):List (Nat×Nat)→Bool
 |[]=>true
 |(t,i)::r=>(match Nat.beq t d with|true=>Ch o i|false=>true)&&clear o d r
theorem ZoA{o:Oper}{d i:Nat}:∀{l:List (Nat×Nat)},clear o d l=true→(d,i)∈l→Ch o i=true
 |[],_,h=>by cases h
 |(t,j)::r,a,h=>by
  simp only[clear,Yb]at a
  rcases Yx.1 h with h|h
  ·cases h
   have:=a.1
   rw[Tg]at this
   exact this
  ·exact ZoA a.2 h
def N2(ds:List (Option Nat)):Nat→List (Nat×Nat)→List (Nat×Nat)→List Oper→Bool
 |_,_,_,[]=>true
 |k,seen,a,o::r=>
  (o.after.toList.all fun e=>!Region.binds .any e||Nat.ble (e.on+1) k)&&
  ((FW ds o).all fun t=>match FY seen t with|some i=>Ch o i|none=>true)&&
  match o.dst with
  |some d=>(FY seen d).isNone&&clear o d a&&N2 ds (k+1) ((d,k)::seen) ((FW ds o).map (·,k)++a) r
  |none=>N2 ds (k+1) seen ((FW ds o).map (·,k)++a) r
def Tv:List Oper→Bool
 |[]=>true
 |o::r=>(match o.op with|.select _ _=>false|_=>true)&&Tv r
def XX(ops:List Oper):Bool:=Tv ops&&N2 (ops.map (·.dst)) 0 [] [] ops
theorem ZvR(xs:List Operand):QY xs=xs.filterMap fun|.tmp t=>some t|_=>none:=by
 induction xs with
 |nil=>rfl
 |cons x xs a=>cases x<;>simp[QY,a]
theorem ZvP:∀(ds:List (Option Nat)) (i:Nat),Ms ds i=(ds[i]?).join
 |[],i=>by simp[Ms]
 |x::r,0=>by simp[Ms]
 |x::r,i+1=>by simp[Ms,ZvP r i]
theorem Zoi(ops:List Oper)(o:Oper):FW (ops.map (·.dst)) o=o.looksAt ops.toArray:=by
 unfold FW Oper.looksAt
 rw[ZvR]
 congr 1
 cases d:o.guard with
 |none=>rfl
 |some a=>
  obtain⟨g,b⟩:=a
  simp only
  rw[ZvP,YS]
  simp only[rz]
  cases ops[g]? with
  |none=>rfl
  |some c=>simp only[YZ,Option.join_some,Yc];cases c.dst<;>rfl
structure FInv (ds:List (Option Nat)) (pre:List Oper) (seen:List (Nat×Nat)) (looked:List (Nat×Nat)):Prop where
 s1:∀d i,FY seen d=some i→∃o,pre[i]?=some o∧o.dst=some d
 s2:∀(i:Nat) (o:Oper) (d:Nat),pre[i]?=some o→o.dst=some d→FY seen d=some i
 lo:∀(i:Nat) (o:Oper),pre[i]?=some o→∀t∈FW ds o,(t,i)∈looked
def Xi(ds:List (Option Nat))(x y:Oper):Prop:=(∀d,x.dst=some d→d∉FW ds y∧y.dst≠some d)∧(∀d,y.dst=some d→d∉FW ds x)
theorem zx(ds:List (Option Nat)):∀(s pre:List Oper) (seen c:List (Nat×Nat)),FInv ds pre seen c→N2 ds pre.length seen c s=true→
  ∀(j:Nat) (p:Oper),s[j]?=some p→(∀e∈p.after,Region.binds .any e=true→e.on<pre.length+j)∧
   ∀(i:Nat) (n:Oper),i<pre.length+j→(pre++s)[i]?=some n→Ch p i=true∨Xi ds n p
 |[],pre,seen,c,v,h,j,p,B=>by simp at B
 |o::r,pre,seen,c,v,h,j,p,B=>by
  simp only[N2,Yb]at h
  obtain⟨⟨H,I⟩,u⟩:=h
  cases j with
  |zero=>
   simp only[Gp,Yj]at B
   subst B
   refine⟨fun e he E=>?_,fun i n hi g=>?_⟩
   ·have:=Ys.1 H e (by simpa using he)
    simp only[E,Y6,Kk]at this
    have:=Yh this
    omega
   ·rw[Yp (by omega)]at g
    by_cases A:Ch o i=true
    ·exact .inl A
    ·right
     refine⟨fun d w=>⟨fun hm=>?_,fun k=>?_⟩,fun d w hm=>?_⟩
     ·have:=Ys.1 I d hm
      rw[v.s2 i n d g w]at this
      exact A this
     ·rw[k]at u
      simp only[Yb]at u
      have:=u.1.1
      rw[v.s2 i n d g w]at this
      cases this
     ·rw[w]at u
      simp only[Yb]at u
      exact A (ZoA u.1.2 (v.lo i n g d hm))
  |succ j=>
   simp only[L9]at B
   have q:∀(f:List (Nat×Nat)),(∀d i,FY f d=some i→∃m,(pre++[o])[i]?=some m∧m.dst=some d)→(∀(i:Nat) (m:Oper) (d:Nat),(pre++[o])[i]?=some m→m.dst=some d→FY f d=some i)→
     FInv ds (pre++[o]) f ((FW ds o).map (·,pre.length)++c):=fun f a b=>⟨a,b,fun i m g t G=>by
    rcases OK i pre.length with l|heq|C
    ·rw[Yp l]at g;exact rA _ (v.lo i m g t G)
    ·subst heq;simp at g;subst g;exact HM _ (YT.2 ⟨t,G,rfl⟩)
    ·rw[YM (by simp;omega)]at g;cases g⟩
   have fin:∀f,FInv ds (pre++[o]) f ((FW ds o).map (·,pre.length)++c)→N2 ds (pre.length+1) f ((FW ds o).map (·,pre.length)++c) r=true→_:=fun f D K=>
    zx ds r (pre++[o]) f ((FW ds o).map (·,pre.length)++c) D (by simpa using K) j p B
   have conv:(∀e∈p.after,Region.binds .any e=true→e.on<(pre++[o]).length+j)∧(∀(i:Nat) (n:Oper),i<(pre++[o]).length+j→(pre++[o]++r)[i]?=some n→Ch p i=true∨Xi ds n p)→
     (∀e∈p.after,Region.binds .any e=true→e.on<pre.length+(j+1))∧(∀(i:Nat) (n:Oper),i<pre.length+(j+1)→(pre++o::r)[i]?=some n→Ch p i=true∨Xi ds n p):=by
    rintro⟨a,b⟩
    simp only[Yt,FC,HP,Y7,HO,Fy]at a b
    exact⟨fun e he E=>by have:=a e he E;omega,fun i n hi g=>b i n (by omega) g⟩
   split at u
   ·rename_i d w
    simp only[Yb]at u
    obtain⟨⟨F,L⟩,J⟩:=u
    have z:FY seen d=none:=by cases x:FY seen d with|none=>rfl|some i=>rw[x]at F;cases F
    refine conv (fin _ (q ((d,pre.length)::seen) (fun d' i x=>?_) (fun i m d' g k=>?_)) J)
    ·simp only[FY]at x
     split at x
     ·rename_i he;cases x;rw[←Yd he];exact⟨o,by simp,w⟩
     ·obtain⟨m,a,b⟩:=v.s1 d' i x
      refine⟨m,?_,b⟩
      rw[Yp];exact a
      rcases YF i pre.length with l|y
      ·exact l
      ·rw[YM y]at a;cases a
    ·simp only[FY]
     rcases OK i pre.length with l|heq|C
     ·rw[Yp l]at g
      have:=v.s2 i m d' g k
      split
      ·rename_i he
       rw[←Yd he,z]at this;cases this
      ·exact this
     ·subst heq;simp at g;subst g;rw[w]at k;cases k;simp
     ·rw[YM (by simp;omega)]at g;cases g
   ·rename_i w
    refine conv (fin _ (q seen (fun d' i x=>?_) (fun i m d' g k=>?_)) u)
    ·obtain⟨m,a,b⟩:=v.s1 d' i x
     refine⟨m,?_,b⟩
     rw[Yp];exact a
     rcases YF i pre.length with l|y
     ·exact l
     ·rw[YM y]at a;cases a
    ·rcases OK i pre.length with l|heq|C
     ·rw[Yp l]at g;exact v.s2 i m d' g k
     ·subst heq;simp at g;subst g;rw[w]at k;cases k
     ·rw[YM (by simp;omega)]at g;cases g
theorem Zmn{ops:List Oper}{x y:Oper}(h:Xi (ops.map (·.dst)) x y):x.apart ops.toArray y=true:=by
 obtain⟨a,c⟩:=h
 rw[Zoi]at c
 have b:∀d,x.dst=some d→d∉y.looksAt ops.toArray∧y.dst≠some d:=fun d e=>by have:=a d e;rw[Zoi]at this;exact this
 unfold Oper.apart
 grind
theorem zI{ops:Array Oper}(m:∀(j:Nat) (c:Oper),ops[j]?=some c→∀e∈c.after,Region.binds .any e=true→e.on<j)
  (n:∀(i j:Nat) (o c:Oper),i<j→ops[i]?=some o→ops[j]?=some c→Ch c i=true∨o.apart ops c=true):
  ∀(fuel k:Nat) (a:Array Bool),fuel+k=ops.size→a.size=ops.size→(∀j,j<ops.size→a[j]?=some (decide (j<k)))→Region.lexFrom .any ops fuel k a=true
 |0,k,a,q,hs,hl=>by
  simp only[Region.lexFrom]
  rw[List.isEmpty_iff,Region.ready,Tb]
  intro i hi
  have hi:=S9.1 hi
  have:=hl i hi
  simp[Yz,this]
  omega
 |fuel+1,k,a,q,hs,hl=>by
  have g:k<ops.size:=by omega
  have b:ops[k]?=some ops[k]:=Yw g
  simp only[Region.lexFrom,Yb]
  refine⟨⟨?_,?_⟩,zI m n fuel (k+1) _ (by omega) (by simp[hs]) (fun j d=>?_)⟩
  ·rw[List.contains_iff_mem]
   unfold Region.ready
   refine Y9.2 ⟨S9.2 g,?_⟩
   rw[Yb]
   refine⟨by simp[Yz,hl k g],?_⟩
   rw[b]
   simp only[YZ,YU]
   rw[Array.all_eq_true_iff_forall_mem]
   intro e he
   by_cases p:Region.binds .any e=true
   ·have:=m k _ b e he p
    simp[Yz,hl e.on (by omega),this]
   grind
  ·unfold Region.free
   rw[b]
   simp only[Ys,S9]
   intro j d
   rw[YI,YI]
   rcases OK j k with l|heq|f
   ·left;right;simp[Yz,hl j d,l]
   ·grind
   ·right
    rw[Yw d]
    simp only
    rw[YI]
    rcases n k j _ _ f b (Yw d)with h|h
    ·left
     unfold Ch at h
     obtain⟨e,he,h⟩:=YL.1 h
     rw[←Array.any_toList]
     exact YL.2 ⟨e,he,by simpa using h⟩
    grind
  grind
theorem zH{ops:List Oper}(h:XX ops=true):Region.lexB .any ops.toArray=true:=by
 unfold XX at h
 rw[Yb]at h
 have g:∀(l:List Oper),Tv l=true→l.all (fun o=>match o.op with|.select ..=>false|_=>true)=true:=fun l=>by
  induction l with
  |nil=>intro _;rfl
  |cons o l p=>
   intro m
   simp only[Tv,Yb]at m
   grind
 have key:=zx (ops.map (·.dst)) ops [] [] [] ⟨fun d i k=>by simp[FY]at k,fun i o d e=>by simp at e,fun i o e=>by simp at e⟩ h.2
 simp only[HP,YO,Fy]at key
 unfold Region.lexB
 rw[Yb]
 refine⟨?_,zI (fun j f b=>(key j f (by simpa using b)).1) (fun i j n f c hi b=>?_) _ 0 _ rfl (by simp) (fun j b=>by simp at b⊢;simp[b])⟩
 ·unfold Region.noSelect
  grind
 ·rcases(key j f (by simpa using b)).2 i n c (by simpa using hi)with a|a
  ·grind
  ·exact .inr (Zmn a)
structure TI where
 agg:Bool:=false
 kin:Nat:=0
 siz:Nat:=1
 elm:Option (Nat×Nat):=none
 fld:List (Nat×Nat×Bool):=[]
 zer:Option (List AV):=none
 eqt:Option (List Nat):=none
 str:Bool:=false
 ik:Option IntKind:=none
 byt:Option Nat:=none
 mp:Option (Bool×List D):=none
def AV.flat:AV→Bool
 |.d _|.e0|.p _|.iptr _ _=>true
 |_=>false
structure TIok (P:Program) (t:TypeId) (i:TI):Prop where
 agg:DI P t=some i.agg
 kin:kin P t=i.kin
 siz:P.cellsOf t=i.siz
 elm:∀e,i.elm=some e→Go.Eng.elm P t=some e
 fld:∀(j:Nat) (x:Nat×Nat×Bool),i.fld[j]?=some x→Go.Eng.fld P t j=some (x.1,x.2.1)∧Mm P t j=some x
 zer:∀z,i.zer=some z→Go.Eng.zer P t=some z
 eqt:∀z,i.eqt=some z→N8 P t=some z
 str:i.str=true→Mx P t=true
 ik:∀z,i.ik=some z→P.underlying t=some (.int z)
 byt:∀z,i.byt=some z→P.bytesOf t≤z∧P.bytesOf t≠0
 flt:∀z,i.zer=some z→z.all AV.flat=true
 mp:∀z,i.mp=some z→My P t=some z
def Bl(P:Program)(T:Nat→Option TI):Prop:=∀t i,T t=some i→TIok P t i
inductive AT where
 |nil
 |go (r:AT)
 |av (x:AV) (r:AT)
 |cs (c:List AV) (r:AT)
 |ds (e:List D) (r:AT)
 |num (n:Int) (r:AT)
 |nat (n:Nat) (r:AT)
 |call (x:AV) (ks:List Af) (r:AT)
 |callH (x:AV) (ks:List Af) (hb:List (Af×List AV)) (r:AT)
 |br (a b:AT)
 |frz (d:Nat) (js:List (Nat×List (List D))) (cs:List (Af×Nat×List (List D))) (r:AT)
 |adc (k:Af) (i d:Nat) (e:TypeId) (sz:Nat) (r:AT)
 |mv (d j:Nat) (r:AT)
 |ads (j d:Nat) (e:TypeId) (sz:Nat) (r:AT)
 |trim (k:Af) (c:List AV) (r:AT)
 |reb (j d m:Nat) (c:List AV) (r:AT)
 |sep (r:AT)
 |hard (x:AV) (ks:List Af) (hb:List (Af×Blk)) (fr:List Af) (r:AT)
 |ents (es:List (List D)) (r:AT)
 |all (a:AT) (f:Nat→AT)
 |fzm (d:Nat) (js:List Nat) (r:AT)
 |fzb (d:Nat) (js:List Nat) (r:AT)
 |rnm (d d' e i:Nat) (r:AT)
 |mvc (d q e i:Nat) (r:AT)
 |one (v:Bool) (r:AT)
structure Ren where
 κ:Af→Af
 γ:Af→Nat
 θ:Nat→AV
 H0:Hp
 no:Af→Prop
mutual
def ren(r:Ren):AV→AV
 |.ref k g off n=>.ref (r.κ k) (r.γ k+g) off n
 |.ptr k g off=>.ptr (r.κ k) (r.γ k+g) off
 |.mp k g=>.mp (r.κ k) (r.γ k+g)
 |.fn f xs ys=>match f with
  |.yield i=>r.θ i
  |f=>.fn f (As r xs) (As r ys)
 |.agg xs=>.agg (As r xs)
 |.tup xs=>.tup (As r xs)
 |.top=>.top
 |.d x=>.d x
 |.e0=>.e0
 |.p x=>.p x
 |.iptr cs off=>.iptr cs off
 |.ifc t ds a=>.ifc t ds a
def As(r:Ren):List AV→List AV
 |[]=>[]
 |x::xs=>ren r x::As r xs
end
def AW(r:Ren)(k:Af)(b:Blk):Blk:=⟨r.γ k+b.g,true,b.e,b.sz,As r b.cells⟩
theorem FO{r:Ren}(xs:List AV):As r xs=xs.map (ren r):=by
 induction xs with
 |nil=>simp[As]
 |cons x xs a=>simp[As,a]
theorem CL{r:Ren}(xs:List AV):(As r xs).length=xs.length:=by rw[FO,YH]
theorem Hd{r:Ren}(xs ys:List AV):As r (xs++ys)=As r xs++As r ys:=by simp[FO]
theorem Ff{r:Ren}(xs:List AV)(n:Nat):(As r xs).drop n=As r (xs.drop n):=by simp[FO]
theorem FK{r:Ren}(xs:List AV)(n:Nat):(As r xs).take n=As r (xs.take n):=by simp[FO]
theorem H8{r:Ren}(xs:List AV)(n:Nat):(As r xs)[n]?=(xs[n]?).map (ren r):=by simp[FO]
theorem Ic{r:Ren}(xs:List D):As r (xs.map .d)=xs.map .d:=by
 induction xs with
 |nil=>simp[As]
 |cons x xs a=>simp only[YY,As,ren,a]
theorem ZAx{r:Ren}{xs:List AV}(h:xs≠[]):As r xs≠[]:=by cases xs<;>simp_all[As]
def DJ(r:Ren)(H a:Hp):Prop:=∀k,(H k).live=true→a (r.κ k)=AW r k (H k)
def Bt{α:Type}:List α→Nat→Option α
 |[],_=>none
 |x::_,0=>some x
 |_::xs,i+1=>Bt xs i
theorem Cs{α:Type}:∀(xs:List α) (i:Nat),Bt xs i=xs[i]?
 |[],i=>by simp[Bt]
 |x::xs,0=>by simp[Bt]
 |x::xs,i+1=>by simp[Bt,Cs xs i]
def J0{α:Type}:Nat→List α→Option (List α)
 |0,_=>some []
 |n+1,x::xs=>match J0 n xs with|some r=>some (x::r)|none=>none
 |_+1,[]=>none
theorem lg{α:Type}:∀(n:Nat) (xs r:List α),J0 n xs=some r→xs.take n=r∧n≤xs.length
 |0,xs,r,h=>by simp only[J0,Yj]at h;subst h;simp
 |n+1,[],r,h=>by simp[J0]at h
 |n+1,x::xs,r,h=>by
  simp only[J0]at h
  split at h
  ·rename_i q a
   cases h
   obtain⟨b,c⟩:=lg n xs q a
   grind
  ·cases h
def B2(H:Hp)(k:Af)(g:Nat):Bool:=Nat.beq g (H k).g&&(H k).live
theorem EE{H:Hp}{k:Af}{g:Nat}(h:B2 H k g=true):g=(H k).g∧(H k).live=true:=by
 simp only[B2,Yb]at h
 exact⟨Yd h.1,h.2⟩
theorem DJ.at{r:Ren}{H a:Hp}(h:DJ r H a){k:Af}{g:Nat}(hl:B2 H k g=true):r.γ k+g=(a (r.κ k)).g∧(a (r.κ k)).live=true∧(a (r.κ k)).e=(H k).e∧(a (r.κ k)).sz=(H k).sz∧(a (r.κ k)).cells=As r (H k).cells:=by
 obtain⟨b,c⟩:=EE hl
 rw[h k c]
 subst b
 exact⟨rfl,rfl,rfl,rfl,rfl⟩
def Bq(g:Option Bool)(S:Prop):Prop:=
 match g with
 |none=>S
 |some b=>b=true→S
theorem BD{g:Option Bool}{S:Prop}(a:∀b,g=some b→b=true)(h:Bq g S):S:=by
 unfold Bq at h
 grind
def DW(cs:List AV)(off:Nat)(c:List AV):Prop:=(cs.drop off).take c.length=c
def Jh(a:List (List D))(n:Int)(e:List D):Prop:=0≤n∧a[n.toNat]?=some e
def ME(n:Int)(len off sz o:Nat):Prop:=0≤n∧n<len∧(off+n.toNat)*sz=o
def Jl(s:ByteArray)(n b:Int):Prop:=0≤n∧∃x:UInt8,s.data.toList[n.toNat]?=some x∧b=x.toNat
def Cz(k:IntKind)(a r:Int):Prop:=k.wrap a=r
def BN(a b:Int):Prop:=a=b
def SV(a b:Int):Prop:=a≠b
def SS(a b:Int):Prop:=a≤b
def yB(a b:ByteArray):Prop:=a.size+b.size≤9223372036854775807
def D8(dflt:Nat)(o:Option AV)(l:Nat):Prop:=
 match o with
 |none=>l=dflt
 |some (.d (.int _ n))=>n=l
 |_=>False
def Gl(l h n:Nat):Prop:=l≤h∧h≤n
def SX(es:List (List D))(sz l h:Nat)(a:List (List D)):Prop:=(∀e,e∈es→e.length=sz)∧(es.drop l).take (h-l)=a
def ac(off l h o n:Nat):Prop:=off+l=o∧h-l=n
def bQ(t:Bool)(a b:AV):AV:=
 match a,b with
 |.d (.bool x),.d (.bool y)=>.d (.bool (cond t x y))
 |a,b=>cond t a b
theorem ZBM(t:Bool)(a b:AV):bQ t a b=if t then a else b:=by
 unfold bQ
 grind
def NN(i:TI)(H:Hp)(x:AV)(g:Option Bool)(a:AT)(K:AV→AT→Prop):Prop:=
 match x with
 |.iptr cs off=>match i.agg with
  |true=>match Nat.ble 1 i.siz,J0 i.siz (cs.drop off)with|true,some c=>K (.agg (c.map .d)) a|_,_=>False
  |false=>match Bt cs off with|some c=>K (.d c) a|none=>False
 |.ptr k q off=>match B2 H k q with
  |true=>match a with
   |.go r=>(match i.agg with
    |true=>match Nat.ble 1 i.siz,J0 i.siz ((H k).cells.drop off)with|true,some c=>K (.agg c) r|_,_=>False
    |false=>match Bt (H k).cells off with|some c=>K c r|none=>False)
   |.cs c r=>(match i.agg with
    |true=>match Nat.ble 1 i.siz,Nat.beq c.length i.siz with|true,true=>Bq g (DW (H k).cells off c)∧K (.agg c) r|_,_=>False
    |false=>match c with|[x]=>Bq g (DW (H k).cells off [x])∧K x r|_=>False)
   |_=>False
  |false=>False
 |_=>False
def VL(i:TI)(H:Hp)(f:Nat)(x:AV)(a:AT)(K:AV→AT→Prop):Prop:=
 match Bt i.fld f with
 |some (o,n,_)=>match Nat.ble 1 n with
  |true=>(match x with
   |.iptr cs off=>K (.iptr cs (off+o)) a
   |.ptr k q off=>match B2 H k q with|true=>K (.ptr k q (off+o)) a|false=>False
   |_=>False)
  |false=>False
 |none=>False
def W9(i:TI)(f:Nat)(x:AV)(a:AT)(K:AV→AT→Prop):Prop:=
 match Bt i.fld f,x with
 |some (o,n,true),.agg cs=>(match Nat.ble 1 n with|true=>K (.agg ((cs.drop o).take n)) a|false=>False)
 |some (o,_,false),.agg cs=>(match Bt cs o with|some c=>K c a|none=>False)
 |_,_=>False
def VJ(i:TI)(H:Hp)(x j:AV)(g:Option Bool)(a:AT)(K:AV→AT→Prop):Prop:=
 match i.elm,j with
 |some (_,sz),.d (.int _ n)=>(match x,a with
  |.d (.list b),.ds e r=>(match Nat.beq e.length sz,Nat.ble 1 sz with|true,true=>Bq g (Jh b n e)∧K (.iptr e 0) r|_,_=>False)
  |.ref k q off len,.nat o r=>(match B2 H k q,Nat.beq (H k).sz sz,Nat.ble 1 sz with|true,true,true=>Bq g (ME n len off sz o)∧K (.ptr k q o) r|_,_,_=>False)
  |_,_=>False)
 |_,_=>False
def Xl(i:TI)(x j:AV)(g:Option Bool)(a:AT)(K:AV→AT→Prop):Prop:=
 match x,j,a with
 |.d (.str s),.d (.int _ n),.num b r=>(match Nat.beq i.kin 2 with|true=>Bq g (Jl s n b)∧K (.d (.int .u8 b)) r|false=>False)
 |_,_,_=>False
def U9(op:BinOp)(k:IntKind)(x y:Int)(g:Option Bool)(a:AT)(K:AV→AT→Prop):Prop:=
 match op with
 |.eql=>K (.d (.bool (decide (x=y)))) a
 |.neq=>K (.d (.bool (!decide (x=y)))) a
 |.lss=>K (.d (.bool (decide (x<y)))) a
 |.leq=>K (.d (.bool (decide (x≤y)))) a
 |.gtr=>K (.d (.bool (decide (y<x)))) a
 |.geq=>K (.d (.bool (decide (y≤x)))) a
 |.add=>match a with|.num n r=>Bq g (Cz k (x+y) n)∧K (.d (.int k n)) r|_=>False
 |.sub=>match a with|.num n r=>Bq g (Cz k (x-y) n)∧K (.d (.int k n)) r|_=>False
 |.mul=>match a with|.num n r=>Bq g (Cz k (x*y) n)∧K (.d (.int k n)) r|_=>False
 |.quo=>match a with|.num n r=>Bq g (SV y 0)∧Bq g (Cz k (x.tdiv y) n)∧K (.d (.int k n)) r|_=>False
 |.rem=>match a with|.num n r=>Bq g (SV y 0)∧Bq g (BN (x.tmod y) n)∧K (.d (.int k n)) r|_=>False
 |.shr=>match a with|.num n r=>Bq g (SS 0 y)∧Bq g (BN (x.fdiv (2^(min y.toNat k.bits))) n)∧K (.d (.int k n)) r|_=>False
 |.shl=>match a with|.num n r=>Bq g (SS 0 y)∧Bq g (Cz k (x*2^(min y.toNat k.bits)) n)∧K (.d (.int k n)) r|_=>False
 |.and=>match a with|.num n r=>Bq g (BN (Dq k x y) n)∧K (.d (.int k n)) r|_=>False
 |.or=>match a with|.num n r=>Bq g (BN (GW k x y) n)∧K (.d (.int k n)) r|_=>False
 |.xor=>match a with|.num n r=>Bq g (BN (Mh k x y) n)∧K (.d (.int k n)) r|_=>False
 |_=>False
def UL(op:BinOp)(x y:ByteArray)(g:Option Bool)(a:AT)(K:AV→AT→Prop):Prop:=
 match op with
 |.add=>Bq g (yB x y)∧K (.d (.str (x++y))) a
 |.eql=>K (.d (.bool (decide (x=y)))) a
 |.neq=>K (.d (.bool (!decide (x=y)))) a
 |.lss=>K (.d (.bool (BM x y))) a
 |.leq=>K (.d (.bool (BM x y||decide (x=y)))) a
 |.gtr=>K (.d (.bool (!(BM x y||decide (x=y))))) a
 |.geq=>K (.d (.bool (!BM x y))) a
 |_=>False
def MA(H:Hp)(neg:Bool)(x:AV)(a:AT)(K:AV→AT→Prop):Prop:=
 match x with
 |.e0=>∀b,K (.d (.bool b)) a
 |.d (.list c)=>∀b,(c≠[]→b=neg)→K (.d (.bool b)) a
 |.ref k q _ n=>(match B2 H k q with|true=>∀b,(n≠0→b=neg)→K (.d (.bool b)) a|false=>False)
 |_=>False
def ikB:IntKind→IntKind→Bool
 |.i8,.i8|.i16,.i16|.i32,.i32|.i64,.i64|.u8,.u8|.u16,.u16|.u32,.u32|.u64,.u64=>true
 |_,_=>false
theorem ZOo{a b:IntKind}(h:ikB a b=true):a=b:=by cases a<;>cases b<;>first|rfl|cases h
def Uy(i:TI)(H:Hp)(op:BinOp)(c:Bool)(x y:AV)(g:Option Bool)(a:AT)(K:AV→AT→Prop):Prop:=
 match x,y with
 |.d (.int k m),.d (.int k' n)=>(match ikB k k' with|true=>U9 op k m n g a K|false=>False)
 |.d (.str m),.d (.str n)=>UL op m n g a K
 |.d (.bool m),.d (.bool n)=>(match Nat.beq i.kin 1 with
  |true=>(match op with
   |.eql=>K (.d (.bool (m==n))) a
   |.neq=>K (.d (.bool (!(m==n)))) a
   |_=>False)
  |false=>False)
 |.agg xs,.agg ys=>(match i.eqt with
  |some ks=>(match EM ks xs ys with
   |some b=>(match op with
    |.eql=>K (.d (.bool b)) a
    |.neq=>K (.d (.bool (!b))) a
    |_=>False)
   |none=>False)
  |none=>False)
 |x,.e0=>(match c,Nat.beq i.kin 4 with
  |true,true=>(match op with
   |.eql=>MA H false x a K
   |.neq=>MA H true x a K
   |_=>False)
  |_,_=>False)
 |_,_=>False
def ZO(op:UnOp)(x:AV)(g:Option Bool)(a:AT)(K:AV→AT→Prop):Prop:=
 match op,x with
 |.not,.d (.bool b)=>K (.d (.bool (!b))) a
 |.neg,.d (.int k n)=>(match a with|.num m r=>Bq g (Cz k (0-n) m)∧K (.d (.int k m)) r|_=>False)
 |.xor,.d (.int k n)=>(match a with|.num m r=>Bq g (BN (Jr k n) m)∧K (.d (.int k m)) r|_=>False)
 |_,_=>False
def T8(s d:TI)(x:AV)(g:Option Bool)(a:AT)(K:AV→AT→Prop):Prop:=
 match x with
 |.d (.int _ n)=>(match s.ik,d.ik,a with|some _,some k,.num m r=>Bq g (Cz k n m)∧K (.d (.int k m)) r|_,_,_=>False)
 |.d (.str s')=>(match Nat.beq s.kin 2,Nat.beq d.kin 2 with|true,true=>K (.d (.str s')) a|_,_=>False)
 |_=>False
def Xt(i:TI)(H:Hp)(x:AV)(lo hi:Option AV)(e:Bool)(g:Option Bool)(a:AT)(K:AV→AT→Prop):Prop:=
 match e,a with
 |false,.nat l (.nat h r)=>(match x with
  |.d (.str s)=>(match Nat.beq i.kin 2 with|true=>Bq g (D8 0 lo l)∧Bq g (D8 s.size hi h)∧Bq g (Gl l h s.size)∧K (.d (.str (s.extract l h))) r|false=>False)
  |.d (.list es)=>(match i.elm,r with
   |some (_,sz),.av (.d (.list b)) r=>(match Nat.ble 1 sz with
    |true=>Bq g (D8 0 lo l)∧Bq g (D8 es.length hi h)∧Bq g (Gl l h es.length)∧Bq g (SX es sz l h b)∧K (.d (.list b)) r
    |false=>False)
   |_,_=>False)
  |.ref k q off n=>(match i.elm,r,B2 H k q with
   |some (_,sz),.nat d (.nat c r),true=>(match Nat.ble 1 sz,Nat.beq (H k).sz sz with
    |true,true=>Bq g (D8 0 lo l)∧Bq g (D8 n hi h)∧Bq g (Gl l h n)∧Bq g (ac off l h d c)∧K (.ref k q d c) r
    |_,_=>False)
   |_,_,_=>False)
  |_=>False)
 |_,_=>False
def Uj(i:TI)(H:Hp)(x:AV)(g:Option Bool)(a:AT)(K:AV→AT→Prop):Prop:=
 match x,a with
 |.d (.str s),.num n r=>(match Nat.beq i.kin 2 with|true=>Bq g (BN s.size n)∧K (.d (.int .i64 n)) r|false=>False)
 |.d (.list es),.num n r=>(match Nat.beq i.kin 4 with|true=>Bq g (BN es.length n)∧K (.d (.int .i64 n)) r|false=>False)
 |.e0,.num n r=>(match Nat.beq i.kin 4 with|true=>Bq g (BN 0 n)∧K (.d (.int .i64 n)) r|false=>False)
 |.ref k q _ m,.num n r=>(match Nat.beq i.kin 4,B2 H k q with|true,true=>Bq g (BN m n)∧K (.d (.int .i64 n)) r|_,_=>False)
 |_,_=>False
def m0(H:Hp):AV→Option (Bool×List (List D))
 |.d (.map q a)=>some (q,a)
 |.mp k g=>match B2 H k g,(H k).e with
  |true,.m q a=>some (q,a)
  |_,_=>none
 |_=>none
def bqB:Bool→Bool→Bool
 |true,true=>true
 |false,false=>true
 |_,_=>false
theorem ZNR{a b:Bool}(h:bqB a b=true):a=b:=by cases a<;>cases b<;>first|rfl|cases h
def Rz(a:List (List D))(s:ByteArray)(z vs:List D)(ok:Bool):Prop:=(F0 s a).isSome=ok∧(F0 s a).getD z=vs
def XB(i:TI)(H:Hp)(x y:AV)(b:Bool)(g:Option Bool)(a:AT)(K:AV→AT→Prop):Prop:=
 match i.mp,m0 H x,y,a with
 |some (q,z),some (d,c),.d (.str s),.av (.d (.bool ok)) (.ds vs r)=>(match bqB q d with
  |true=>Bq g (Rz c s z vs ok)∧K (N9 b q vs ok) r
  |false=>False)
 |_,_,_,_=>False
def qp(i:TI)(f:Nat):Option (Nat×Nat):=match Bt i.fld f with|some (o,n,_)=>some (o,n)|none=>none
def RA(i:TI)(cells:List AV):List (Nat×AV)→Option (List AV)
 |[]=>some cells
 |(f,v)::a=>match qp i f,C7 v with
  |some (off,size),some vs=>match Nat.beq vs.length size,Nat.ble (off+vs.length) cells.length with
   |true,true=>RA i (cells.take off++vs++cells.drop (off+vs.length)) a
   |_,_=>none
  |_,_=>none
def WW(i:TI)(parts:List (Nat×AV))(a:AT)(K:AV→AT→Prop):Prop:=
 match i.str,i.zer with
 |true,some z=>(match RA i z parts with|some cs=>K (.agg cs) a|none=>False)
 |_,_=>False
def Jq:AV→Bool
 |.fn (.yield _) _ _=>false
 |_=>true
def tV(T:Nat→Option TI)(H:Hp)(op:Op)(ρ:Operand→AV)(g:Option Bool)(a:AT)(K:AV→AT→Prop):Prop:=
 match op with
 |.move x=>K (ρ x) a
 |.assign x=>K (ρ x) a
 |.pick c x y=>match ρ c with|.d (.bool t)=>K (bQ t (ρ x) (ρ y)) a|_=>False
 |.load t x=>match T t with|some i=>NN i H (ρ x) g a K|none=>False
 |.fieldAddr t x f=>match T t with|some i=>VL i H f (ρ x) a K|none=>False
 |.field t x f=>match T t with|some i=>W9 i f (ρ x) a K|none=>False
 |.indexAddr t x j=>match T t with|some i=>VJ i H (ρ x) (ρ j) g a K|none=>False
 |.index t x j=>match T t with|some i=>Xl i (ρ x) (ρ j) g a K|none=>False
 |.extract x j=>match ρ x with|.tup vs=>(match Bt vs j with|some y=>K y a|none=>False)|_=>False
 |.binOp o t x y _=>match T t with|some i=>Uy i H o (JI y) (ρ x) (ρ y) g a K|none=>False
 |.unOp o _ x=>ZO o (ρ x) g a K
 |.nilCheck x=>match ρ x with|.ptr k q off=>(match B2 H k q with|true=>K (.ptr k q off) a|false=>False)|.iptr cs off=>K (.iptr cs off) a|_=>False
 |.convert s d x=>match T s,T d with|some i,some j=>T8 i j (ρ x) g a K|_,_=>False
 |.makeInterface t x=>match T t with|some i=>(match i.str||i.elm.isSome,ρ x with|true,.agg xs=>(match Mr xs with|some ds=>K (.ifc t ds true) a|none=>False)|true,.d x=>K (.ifc t [x] false) a|_,_=>False)|none=>False
 |.typeAssert x _ t ok=>match T t with|some i=>(match i.str||i.elm.isSome,ρ x with|true,.ifc u ds q=>(match Nat.beq u t,upk q ds with|true,some v=>K (cond ok (.tup [v,.d (.bool true)]) v) a|_,_=>False)|_,_=>False)|none=>False
 |.makeFunc fn first b=>match fn with|.yield _=>False|fn=>K (.fn fn (first.toList.map ρ) (b.toList.map ρ)) a
 |.slice t x lo hi h=>match T t with|some i=>Xt i H (ρ x) (lo.map ρ) (hi.map ρ) h.isSome g a K|none=>False
 |.lookup t x y e=>match T t with|some i=>XB i H (ρ x) (ρ y) e g a K|none=>False
 |.build t parts=>match T t,parts.toList.all (fun p=>Jq (ρ p.2))with|some i,true=>WW i (parts.toList.map fun p=>(p.1,ρ p.2)) a K|_,_=>False
 |.call c=>match c.callee,c.args.toList,c.argTypes.toList with
  |.builtin .len,[x],[t]=>match T t with|some i=>Uj i H (ρ x) g a K|none=>False
  |.builtin .min,[x,y],_=>Ey false (ρ x) (ρ y) (fun v=>K v a)
  |.builtin .max,[x,y],_=>Ey true (ρ x) (ρ y) (fun v=>K v a)
  |.builtin .max,[x,y,z],_=>Hq true (ρ x) (ρ y) (ρ z) (fun v=>K v a)
  |_,_,_=>False
 |_=>False
end Go.Eng
