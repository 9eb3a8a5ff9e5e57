import Derived.Test.YtbcmdieedjamgaaGreatZe02
import Derived.KernelRfl
import Derived.Still
import Derived.IntWalk
import Derived.Test.YtbcmdieedjamgaaGreatZe00
namespace Go.Eng
set_option linter.all false
open Go Go.RowKit
def args(xs:List AV):Nat→AV:=fun i=>(xs[i]?).getD .top
def Dk(l:Nat)(H:Hp):Hp:=fun k=>if k.1≤l then H k else⟨0,false,0,0,[]⟩
def IR(l:Nat)(H' H:Hp):Hp:=fun k=>if k.1≤l then H' k else H k
def EM(P:Program)(σ:St):List ResultVar→(List AV→Prop)→Prop
 |[],K=>K []
 |.tmp t::b,K=>EM P σ b (fun xs=>K (σ.s t::xs))
 |.cell a t::b,K=>EF P σ.H t (σ.s a) (fun x=>EM P σ b (fun xs=>K (x::xs)))
def DH:List AV→AV
 |[x]=>x
 |xs=>.tup xs
inductive Fz (H:Hp) (l:Nat):AV→AV→Prop
 |keep (x:AV) (h:x.low l=true):Fz H l x x
 |e0:Fz H l .e0 (.d (.list []))
 |mp (k:Ad) (a:Bool) (es:List (List D)) (hk:k.1=l+1) (hl:(H k).live=true) (he:(H k).e=.m a es):Fz H l (.mp k (H k).g) (.d (.map a es))
 |ref (k:Ad) (off n:Nat) (es:List (List D)) (hk:k.1=l+1) (hl:(H k).live=true) (hn:es.length=n) (hz:(H k).sz≠0) (he:∀e,e∈es→e.length=(H k).sz)
   (hlen:(off+n)*(H k).sz≤(H k).cells.length)
   (h:∀(i j:Nat) (e:List D) (d:D) (x:AV),es[i]?=some e→e[j]?=some d→(H k).cells[(off+i)*(H k).sz+j]?=some x→Fz H l x (.d d)):
   Fz H l (.ref k (H k).g off n) (.d (.list es))
 |agg (xs ys:List AV) (hl:xs.length=ys.length) (h:∀(i:Nat) (x y:AV),xs[i]?=some x→ys[i]?=some y→Fz H l x y):Fz H l (.agg xs) (.agg ys)
 |tup (xs ys:List AV) (hl:xs.length=ys.length) (h:∀(i:Nat) (x y:AV),xs[i]?=some x→ys[i]?=some y→Fz H l x y):Fz H l (.tup xs) (.tup ys)
def xc(P:Program)(fn:Func)(l:Nat)(H:Hp)(a:AV→Hp→Prop):Exit→St→Prop:=fun e σ=>
 (e=.normal∨e=.ret)∧EM P σ fn.results.toList (fun xs=>∃y,Fz σ.H l (DH xs) y∧a y (IR l σ.H H))
section
variable {P:Program} {l n:Nat} {B:Base} {H H':Hp} {m m':Mu} {S S':Nat→Prop} {w w':World} {s:Nat→AV} {a:Act} {K:St→Prop} {o:Oper} {σ:St} {Q:Exit→St→Prop}
theorem ZpF{t:TypeId}{v b:Value}(h:(Instr.loadAt t v).run P w=.ok b w):(do loadVar t (←asAddr v):Sem Value).run P w=.ok b w:=by
 cases v<;>try (simp[Instr.loadAt,Instr.sureAddr]at h;done)
 rename_i p
 cases p with
 |none=>simp[Instr.loadAt,Instr.sureAddr]at h
 |some a=>simpa[Instr.loadAt,Instr.sureAddr,asAddr]using h
def Ou(tmps:Array Value):ResultVar→Sem Value
 |.tmp t=>pure (tmps.getD t undef)
 |.cell p t=>do loadVar t (←asAddr (tmps.getD p undef))
theorem dK(k:Ok (l+1) H m S w)(c:CR (l+1) s H m S a w):∀(rs:List ResultVar) (K:List AV→Prop),EM P ⟨s,H⟩ rs K→
  ∃(vs:List Value) (xs:List AV),(rs.mapM (Ou a.tmps)).run P w=.ok vs w∧xs.length=vs.length∧
   (∀(i:Nat) (x:AV) (v:Value),xs[i]?=some x→vs[i]?=some v→RepA w S H m (l+1) x v)∧K xs
 |[],K,h=>⟨[],[],by simp,rfl,fun i x v h=>by simp at h,h⟩
 |.tmp t::b,K,h=>by
  obtain⟨vs,xs,f,g,n,j⟩:=dK k c b _ h
  refine⟨a.tmps.getD t undef::vs,s t::xs,by simp only[Rz,Ou,Sem.run_bind,Sem.run_pure,Result.andThen_ok,f],by simp[g],fun i x v hx d=>?_,j⟩
  cases i with
  |zero=>simp at hx d;subst hx;subst d;simpa using c t
  |succ i=>exact n i x v (by simpa using hx) (by simpa using d)
 |.cell p t::b,K,h=>by
  obtain⟨v0,r,o,u,q⟩:=y9 h (c p) k
  obtain⟨vs,xs,f,g,n,j⟩:=dK k c b _ q
  refine⟨v0::vs,r::xs,?_,by simp[g],fun i x v hx d=>?_,j⟩
  ·have:=ZpF o
   have e:(Ou a.tmps (.cell p t)).run P w=.ok v0 w:=this
   simp only[Rz,Sem.run_bind,e,Sem.run_pure,Result.andThen_ok,f]
  grind
def M2(l:Nat)(H:Hp)(m:Mu)(S:Nat→Prop):Nat→Prop:=fun b=>S b∨∃k:Ad,k.1=l+1∧(H k).live=true∧((m k).cap≠0∨(H k).e.isO=true)∧b=(m k).b
theorem Ok.fin(h:Ok (l+1) H m S w):Ok l H m (M2 l H m S) w∧Ext l H m S w H m (M2 l H m S) w:=by
 have n:Ext (l+1) H m S w H m (M2 l H m S) w:=⟨fun _ h=>.inl h,fun _ _=>rfl,fun _ _=>Yf _,fun _ _ _ h=>⟨h,rfl,rfl⟩,rfl,rfl,rfl,Yf _⟩
 refine⟨⟨fun b c=>?_,fun q u=>h.empty q (by omega),fun q u hl g=>?_,fun q z u y=>h.inj q z (by omega) (by omega),fun q u hl g=>?_,
  ⟨fun k p j=>(h.mp.o k (by omega) j).mono (fun _ h=>.inl h) (fun _ _=>rfl) (fun _=>rfl),fun k p j he=>?_,fun k k' p s=>h.mp.i k k' (by omega) (by omega)⟩⟩,n.mono (by omega)⟩
 ·rcases c with c|⟨k,p,hl,g,rfl⟩
  ·exact h.sub b c
  ·rcases g with g|g
   ·obtain⟨C,c,_⟩:=h.blk k (by omega) hl g
    grind
   ·obtain⟨o,c,_⟩:=(h.mp.o k (by omega) hl).at g
    grind
 ·rintro(hs|⟨k,p,f,a,e⟩)
  ·exact h.fresh q (by omega) hl g hs
  ·rcases a with a|a
   ·have:=h.inj q k (by omega) (by omega) hl f g a e
    grind
   ·obtain⟨o,c,r⟩:=(h.mp.o k (by omega) f).at a
    obtain⟨C,d,_⟩:=h.blk q (by omega) hl g
    rw[e,c]at d;cases d;cases r
 ·obtain⟨C,c,hs,t,hx⟩:=h.blk q (by omega) hl g
  exact⟨C,c,hs,t,fun i x v hi j=>⟨(hx i x v hi j).1,(hx i x v hi j).2.ext n (by omega)⟩⟩
 ·refine⟨(h.mp.c k (by omega) j he).1,?_⟩
  rintro(hs|⟨k',s,f,a,e⟩)
  ·exact(h.mp.c k (by omega) j he).2 hs
  ·rcases a with a|a
   ·obtain⟨o,c,r⟩:=(h.mp.o k (by omega) j).at he
    obtain⟨C,d,_⟩:=h.blk k' (by omega) f a
    rw[←e,c]at d;cases d;cases r
   ·have:=h.mp.i k k' (by omega) (by omega) j f he a e
    grind
theorem Fz.sound{x y:AV}(h:Fz H l x y)(Q:Ok (l+1) H m S w):∀{v:Value},RepA w S H m (l+1) x v→RepA w (M2 l H m S) H m l y v:=by
 have t:Ext (l+1) H m S w H m (M2 l H m S) w:=⟨fun _ h=>.inl h,fun _ _=>rfl,fun _ _=>Yf _,fun _ _ _ h=>⟨h,rfl,rfl⟩,rfl,rfl,rfl,Yf _⟩
 induction h with
 |keep x h=>exact fun hx=>(hx.ext t (Yf _)).low h
 |e0=>
  intro v hx
  cases hx with
  |e0 N=>exact(RepA.e0 N).e0_d
 |mp k a es I hl he=>
  intro v hx
  generalize F:(H k).g=g at hx
  cases hx with
  |mpD _ _ _ p G s o=>rw[s F.symm]at hl;cases hl
  |mpL _ p q=>
   have U:=Q.mp.o k (by omega) hl
   rw[he]at U
   obtain⟨ents,A,o,O⟩:=U
   exact .d _ _ (.ofM (.inr ⟨k,I,hl,.inr (by rw[he];rfl),rfl⟩) o (O.mono (fun _ h=>.inl h) (fun _ _=>rfl)))
 |ref k off n es I hl J hz he f h u=>
  intro v hx
  generalize F:(H k).g=g at hx
  cases hx with
  |refD _ _ _ _ _ p G s o=>rw[s F.symm]at hl;cases hl
  |refL _ _ _ N p q T R=>
   by_cases K:n=0
   ·subst K
    have:es=[]:=I1 J
    subst this
    cases N with
    |none=>
     have e:(m k).cap-off=0:=by
      rcases YF off (m k).cap with h|h
      ·have:=R h;cases this
      ·omega
     rw[e]
     exact .d _ _ .nil
    |some ad=>exact .d _ _ (.list [] ad 0 _ (fun _ _=>.bool true) (fun h=>absurd rfl h) (Ck _) (fun _ h=>by cases h) (fun i j e x h=>by simp at h) (fun i j e x h=>by simp at h))
   ·have L:=R (by omega)
    subst L
    obtain⟨E,C,o,O,Z,P⟩:=Q.row (k:=k) (by omega) hl (by
     intro e
     rw[e,Y0]at f
     have:=RM (show 0<n by omega) (show 0<(H k).sz by omega)
     simp at f
     omega)
    have r:∀(i j:Nat) (e:List D) (d:D),es[i]?=some e→e[j]?=some d→(off+i)*(H k).sz+j<(H k).cells.length:=by
     intro i j e d hi c
     have W:i<n:=by
      rw[←J]
      rcases YF i es.length with h|h
      ·exact h
      ·rw[YL h]at hi;cases hi
     have X:j<(H k).sz:=by
      rw[←he e (Yj hi)]
      rcases YF j e.length with h|h
      ·exact h
      ·rw[YL h]at c;cases c
     have:(off+i+1)*(H k).sz≤(off+n)*(H k).sz:=Y9 _ (by omega)
     rw[Y0 (off+i)]at this
     omega
    have:=RepD.list (w:=w) (S:=M2 l H m S) es ⟨(m k).b,(m k).o+off*(H k).sz,none⟩ (H k).sz ((m k).cap-off) (fun i j=>(C[(m k).o+((off+i)*(H k).sz+j)]?).getD undef)
     (fun _=>.inr ⟨k,I,hl,.inl E,rfl⟩) (by omega) he
     (fun i j e d hi c=>by
      obtain⟨v,z,_,_⟩:=P _ _ (Ye (r i j e d hi c))
      rw[Addr.add_lit,Jx o,z]
      rw[show(m k).o+off*(H k).sz+(i*(H k).sz+j)=(m k).o+((off+i)*(H k).sz+j)from by rw[Y0];omega,z]
      rfl)
     (fun i j e d hi c=>by
      obtain⟨v,z,Y,V⟩:=P _ _ (Ye (r i j e d hi c))
      rw[z]
      have:=u i j e d _ hi c (Ye (r i j e d hi c)) V
      cases this with
      |d _ _ s=>exact s)
    rw[J]at this
    exact .d _ _ this
 |agg xs ys hl h u=>
  intro v hx
  cases hx with
  |agg _ vs q o B=>
   refine .agg _ _ (by omega) o (fun i y v hy M=>?_)
   have b:i<xs.length:=by
    rw[hl]
    rcases YF i ys.length with h|h
    ·exact h
    ·rw[YL h]at hy;cases hy
   exact u i _ y (Ye b) hy (B i _ v (Ye b) M)
 |tup xs ys hl h u=>
  intro v hx
  cases hx with
  |tup _ vs q B=>
   refine .tup _ _ (by omega) (fun i y v hy M=>?_)
   have b:i<xs.length:=by
    rw[hl]
    rcases YF i ys.length with h|h
    ·exact h
    ·rw[YL h]at hy;cases hy
   exact u i _ y (Ye b) hy (B i _ v (Ye b) M)
theorem ZjJ{fn:Func}{KK:List AV→Prop}(j:Ok (l+1) H m S w)(k:CR (l+1) s H m S a w)(h:EM P ⟨s,H⟩ fn.results.toList KK):
  ∃v xs,(results fn a.tmps).run P w=.ok v w∧RepA w S H m (l+1) (DH xs) v∧KK xs:=by
 obtain⟨vs,xs,d,c,b,g⟩:=dK j k _ _ h
 have o:∀f:ResultVar→Sem Value,(∀r,f r=Ou a.tmps r)→(fn.results.mapM f).run P w=.ok vs.toArray w:=by
  intro f n
  have:f=Ou a.tmps:=funext n
  subst this
  rw[jx]
  simp[d]
 refine⟨if h:vs.toArray.size=1 then vs.toArray[0]else .tuple vs.toArray,xs,?_,?_,g⟩
 ·unfold results
  simp only[Sem.run_bind]
  rw[o _ (fun r=>by cases r<;>rfl)]
  simp
 ·match xs,vs,c,b with
  |[x],[v],_,b=>exact b 0 x v rfl rfl
  |[],[],_,_=>exact .tup _ _ rfl (fun i x v h=>by simp[DH]at h)
  |x::x'::xs,v::q::vs,c,b=>
   have e:¬((v::q::vs).toArray.size=1):=by simp
   rw[dif_neg e]
   exact .tup _ _ (by simpa using c) (fun i x v hx p=>b i x v hx (by simpa using p))
theorem ZxA{P:Program}{f:FuncId}{fn:Func}{c:Code}{n l:Nat}{xs:List AV}{H:Hp}{s:AV→Hp→Prop}(hf:P.funcs[f]?=some fn)(hb:fn.body=some c)(G:(fn.name== "runtime.NumGoroutine")=false)
  (hn:fn.ntmps=n) (hx:xs.length≤n) (h:∀B:Base,BH P l n B c (xc P fn l H s) ⟨args xs,Dk l H⟩):Zc3 P f l xs H s:=by
 refine⟨⟨fn,c,hf,hb,G⟩,fun m S w vs K j=>?_⟩
 have a:∀k:Ad,k.1≤l→Dk l H k=H k:=fun k g=>by unfold Dk;rw[Yi g]
 have hdead:∀k:Ad,¬k.1≤l→(Dk l H k).live=false:=fun k g=>by unfold Dk;rw[Ym g]
 have u:∀k:Ad,(Dk l H k).live=true→k.1≤l:=fun k hl=>by
  grind
 have X:Ok (l+1) (Dk l H) m S w:=by
  refine⟨K.sub,fun q d hl o=>?_,fun q d hl o=>?_,fun q M d I hl t o J heq=>?_,fun q d hl o=>?_,
   K.mp.stepL (fun q _ hl _=>by have:=u q hl;rw[a q this]at hl⊢;exact⟨this,hl,rfl,rfl⟩) (fun _ h=>h) (fun _ h=>.inl h) (fun _ _=>rfl) (fun _ _ h _=>h)⟩
  ·have:=u q hl;rw[a q this]at hl⊢;exact K.empty q this hl o
  ·have:=u q hl;rw[a q this]at hl;exact K.fresh q this hl o
  ·have e:=u q hl
   have e':=u M t
   rw[a q e]at hl;rw[a M e']at t
   exact K.inj q M e e' hl t o J heq
  ·have e:=u q hl
   rw[a q e]at hl⊢
   obtain⟨C,U,V,W,T⟩:=K.blk q e hl o
   exact⟨C,U,V,W,fun i x v hi O=>⟨(T i x v hi O).1,(T i x v hi O).2.agree (fun k g=>a k (by omega)) (fun _ _=>rfl)⟩⟩
 have hE:Ext l H m S w (Dk l H) m S w:=⟨fun _ h=>h,fun _ _=>rfl,fun k g=>by rw[a k g];exact Yf _,fun k g _ hl=>by rw[a k g]at hl⊢;exact⟨hl,rfl,rfl⟩,rfl,rfl,rfl,Yf _⟩
 have hR:R l n ⟨H,m,S,w⟩ ⟨args xs,Dk l H⟩ {tmps:=vs++Array.replicate (fn.ntmps-vs.size) undef,defers:=[] } w:=by
  refine⟨m,S,X,by simp[hn];rw[←j.1];omega,rfl,fun i=>?_,hE⟩
  simp only[args]
  cases hi:xs[i]? with
  |none=>exact .top _
  |some x=>
   have hlt:i<xs.length:=by
    grind
   have D:i<vs.size:=by rw[←j.1];exact hlt
   rw[YC,Xj D,Yv D]
   exact((j.2 i x _ hi (Yv D)).agree (fun k g=>a k g) (fun _ _=>rfl)).lvl (Nat.le_succ l)
 refine calls_of_wp hf hb (wp_mono (h ⟨H,m,S,w⟩ _ w hR) fun e a' w' ⟨σ',d,Y⟩=>?_)
 obtain⟨s',H'⟩:=σ'
 obtain⟨m',S',A,hn',hd',Z,N⟩:=Y.un
 have done:EM P ⟨s',H'⟩ fn.results.toList (fun xs=>∃y,Fz H' l (DH xs) y∧s y (IR l H' H))→a'.defers=[]∧∃v,(results fn a'.tmps).run P w'=.ok v w'∧
   (∃r Q p E z,Ending.returned v=.returned Q∧s r p∧Ok l p E z w'∧RepA w' z p E l r Q∧Ext l H m S w p E z w'):=by
  intro hr
  obtain⟨v,xs,U,V,y,W,T⟩:=ZjJ A Z hr
  obtain⟨L,k2⟩:=A.fin
  have b:∀k:Ad,k.1≤l→IR l H' H k=H' k:=fun k g=>by unfold IR;rw[Yi g]
  refine⟨hd',v,U,y,v,IR l H' H,m',_,rfl,T,?_,(W.sound A V).agree b (fun _ _=>rfl),?_⟩
  ·refine⟨L.sub,fun q d hl o=>?_,fun q d hl o=>?_,fun q M d I hl t o J heq=>?_,fun q d hl o=>?_,
    L.mp.step (Yf _) (fun q d hl _=>by rw[b q d]at hl⊢;exact⟨hl,rfl,rfl⟩) (fun _ h=>h) (fun _ h=>.inl h) (fun _ _=>rfl) (fun _ _ h _=>h)⟩
   ·rw[b q d]at hl⊢;exact L.empty q d hl o
   ·rw[b q d]at hl;exact L.fresh q d hl o
   ·rw[b q d]at hl;rw[b M I]at t;exact L.inj q M d I hl t o J heq
   ·rw[b q d]at hl⊢
    obtain⟨C,g1,g2,g3,g4⟩:=L.blk q d hl o
    exact⟨C,g1,g2,g3,fun i x v hi O=>⟨(g4 i x v hi O).1,(g4 i x v hi O).2.agree (fun k g=>b k (by omega)) (fun _ _=>rfl)⟩⟩
  ·have F:=Ext.trans (show Ext l H m S w H' m' S' w' from N) k2
   exact⟨F.s,F.blk,fun k g=>by rw[b k g];exact F.g k g,fun k g hg hl=>by rw[b k g]at hg hl⊢;exact F.live k g hg hl,F.os,F.tape,F.output,F.size⟩
 rcases d.1 with rfl|rfl
 ·exact done d.2
 ·exact done d.2
end
end Go.Eng
namespace Go.Eng
set_option linter.all false
open Go Go.RowKit
section
variable {P:Program} {l n:Nat} {ds:List (Option Nat)} {ops rest:List Oper} {K:St→Prop} {s:Nat→AV} {H:Hp} {d:Option Nat} {op:Op} {ty:TypeId} {ps:String} {af:Array Edge} {g:Option (Nat×Bool)}
variable {x y:Operand} {t:TypeId}
theorem gW{l:Nat}{H:Hp}{k:Ad}(h:k.1≤l):Dk l H k=H k:=by unfold Dk;rw[Yi h]
theorem ZGd{l:Nat}{H:Hp}{i:Nat}:Dk l H (l+1,i)=⟨0,false,0,0,[]⟩:=by unfold Dk;rw[Ym (by simp)]
end
def Cv(o:Oper):Bool:=o.dst.isSome&&match o.op with
 |.call c=>match c.callee with
  |.value _=>true
  |.builtin .len|.builtin .min|.builtin .max=>true
  |_=>false
 |.binOp _ _ _ y _=>!JA y
 |.alloc _|.box _ _|.store _ _ _|.buildSlice _ _ _|.makeSlice _ _ _|.makeMap _ _|.range _ _|.next _ _|.entry _=>false
 |_=>true
def ag(o:Oper):Bool:=match o.op with
 |.buildSlice _ (_+1) _=>true
 |_=>false
def CY(o:Oper):Bool:=Cv o||(o.dst.isSome&&ag o)
def w3(P:Program)(t:TypeId)(len:Nat)(ps:List (Nat×AV))(v:AV):Prop:=
 ∃e sz z es,elm P t=some (e,sz)∧sz≠0∧(len+1)*sz≤16777216∧zer P e=some z∧z.length=sz∧F8 sz 0 ps=some es∧es.length=len+1∧v=.d (.list es)
def qV(P:Program)(l:Nat)(H:Hp)(o:Oper)(ρ:Operand→AV)(v:AV):Prop:=
 match o.op with
 |.buildSlice t (len+1) parts=>w3 P t len (parts.toList.map fun p=>(p.1,ρ p.2)) v
 |.call c=>match c.callee with
  |.value f=>match ρ f with
   |.fn (.func g) first a=>Zc3 P g (l+1) (first++c.args.toList.map ρ++a) H (fun y b=>y=v∧b=H)
   |_=>False
  |_=>A2 P H o.op ρ (fun y=>y=v)
 |_=>A2 P H o.op ρ (fun y=>y=v)
def FX(P:Program)(l n:Nat)(o:Oper)(K:St→Prop)(σ:St):Prop:=
 match o.op with
 |.buildSlice t (len+1) parts=>∃v,w3 P t len (parts.toList.map fun p=>(p.1,ev σ.s p.2)) v∧CC n o.dst K σ v
 |.call c=>match c.callee with
  |.value f=>match ev σ.s f with
   |.fn (.func g) first a=>∃r,Zc3 P g (l+1) (first++c.args.toList.map (ev σ.s)++a) σ.H (fun y b=>y=r∧b=σ.H)∧CC n o.dst K σ r
   |_=>False
  |_=>Bw P l n o K σ
 |_=>Bw P l n o K σ
def DT(P:Program)(l n:Nat)(ds:List (Option Nat)):List Oper→(St→Prop)→St→Prop
 |[],K,σ=>K σ
 |o::a,K,σ=>match o.guard with
  |none=>FX P l n o (DT P l n ds a K) σ
  |some (i,b)=>match IQ σ.s ds i b with
   |some t=>(t=true→FX P l n o (DT P l n ds a K) σ)∧(t=false→match o.dst with|some d=>d<n∧DT P l n ds a K ⟨upd σ.s d (.tup []),σ.H⟩|none=>False)
   |none=>False
section
variable {P:Program} {l n:Nat} {B:Base} {H:Hp} {K K':AV→Prop} {t:TypeId} {x y:AV} {ρ ρ':Operand→AV}
theorem zm{op:BinOp}{k:IntKind}{a b:Int}(h:∀v,K v→K' v)(c:GH op k a b K):GH op k a b K':=by
 cases op<;>simp only[GH]at c⊢<;>first|exact h _ c|exact⟨c.1,h _ c.2⟩|exact c
theorem zw{op:BinOp}{a b:ByteArray}(h:∀v,K v→K' v)(c:GI op a b K):GI op a b K':=by
 cases op<;>simp only[GI]at c⊢<;>first|exact h _ c|exact⟨c.1,h _ c.2⟩|exact c
theorem Zwh{op:BinOp}{k:IntKind}{a b:Int}(c:GH op k a b K):∃v,GH op k a b (fun y=>y=v)∧K v:=by
 cases op<;>simp only[GH]at c⊢<;>first|exact⟨_,rfl,c⟩|exact⟨_,⟨c.1,rfl⟩,c.2⟩|exact c.elim
theorem Zyz{op:BinOp}{a b:ByteArray}(c:GI op a b K):∃v,GI op a b (fun y=>y=v)∧K v:=by
 cases op<;>simp only[GI]at c⊢<;>first|exact⟨_,rfl,c⟩|exact⟨_,⟨c.1,rfl⟩,c.2⟩|exact c.elim
theorem Zq9(h:EF P H t x K):∃v,EF P H t x (fun y=>y=v)∧K v:=by
 unfold EF at h⊢
 split at h
 ·grind
 ·grind
 grind
theorem ZiU{i:Nat}(h:E1 P H t i x K):∃v,E1 P H t i x (fun y=>y=v)∧K v:=by
 unfold E1 at h⊢
 grind
theorem ZoY{i:Nat}(h:Fb P t i x K):∃v,Fb P t i x (fun y=>y=v)∧K v:=by
 unfold Fb at h⊢
 split at h
 ·split at h
  ·grind
  grind
 grind
theorem ZiQ(h:Eu P H t x y K):∃v,Eu P H t x y (fun y=>y=v)∧K v:=by
 unfold Eu at h⊢
 grind
theorem Zpa(h:FM P t x y K):∃v,FM P t x y (fun y=>y=v)∧K v:=by
 unfold FM at h⊢
 grind
theorem ZvH{op:BinOp}{xs ys:List AV}(h:Hs P op t xs ys K):∃v,Hs P op t xs ys (fun y=>y=v)∧K v:=by
 unfold Hs at h⊢
 split at h
 ·grind
 grind
theorem Zw9{op:BinOp}(h:CJ P H op t false x y K):∃v,CJ P H op t false x y (fun y=>y=v)∧K v:=by
 unfold CJ at h⊢
 split at h
 ·obtain⟨v,a,b⟩:=Zwh h.2;exact⟨v,⟨h.1,a⟩,b⟩
 ·exact Zyz h
 ·grind
 ·exact ZvH h
 ·cases h.1
 grind
theorem ZE2{op:UnOp}(h:ER op x K):∃v,ER op x (fun y=>y=v)∧K v:=by
 unfold ER at h⊢
 grind
theorem Zrd{u:TypeId}(h:Fe P t u x K):∃v,Fe P t u x (fun y=>y=v)∧K v:=by
 unfold Fe at h⊢
 grind
theorem ZoT{lo hi:Option AV}{a:Bool}(h:EA P H t x lo hi a K):∃v,EA P H t x lo hi a (fun y=>y=v)∧K v:=by
 unfold EA at h⊢
 grind
theorem ZxK(h:DW P H t x K):∃v,DW P H t x (fun y=>y=v)∧K v:=by
 unfold DW at h⊢
 grind
theorem Zpx{ps:List (Nat×AV)}(h:FP P t ps K):∃v,FP P t ps (fun y=>y=v)∧K v:=by
 unfold FP at h⊢
 grind
theorem ZFy{op:Op}(g:∀o t x y u,op=.binOp o t x y u→JA y=false)(h:A2 P H op ρ K):∃v,A2 P H op ρ (fun y=>y=v)∧K v:=by
 cases op<;>simp only[A2]at h⊢<;>try exact h.elim
 case move x=>exact⟨_,rfl,h⟩
 case assign x=>exact⟨_,rfl,h⟩
 case pick c a b=>
  split at h
  ·grind
  ·grind
 case load=>exact Zq9 h
 case fieldAddr=>exact ZiU h
 case field=>exact ZoY h
 case indexAddr=>exact ZiQ h
 case index=>exact Zpa h
 case extract=>
  split at h
  ·grind
  ·grind
 case binOp o t x y u=>
  rw[g _ _ _ _ _ rfl]at h⊢
  exact Zw9 h
 case unOp=>exact ZE2 h
 case convert=>exact Zrd h
 case nilCheck=>
  unfold Ja at h⊢
  split at h
  ·grind
  ·grind
  ·grind
 case makeFunc=>exact⟨_,rfl,h⟩
 case makeInterface=>
  obtain⟨d,h⟩:=h
  repeat' split at h
  all_goals first|exact h.elim|exact⟨_,⟨d,rfl⟩,h⟩
 case typeAssert=>
  obtain⟨d,h⟩:=h
  repeat' split at h
  all_goals first|exact h.elim|exact⟨_,⟨d,h.1,rfl⟩,h.2⟩
 case slice=>exact ZoT h
 case build=>exact Zpx h
 case lookup=>exact ZuD h
 case call c=>
  split at h
  ·obtain⟨v,e,f⟩:=ZxK h.2;exact⟨v,⟨h.1,e⟩,f⟩
  ·split at h
   ·unfold Em at h⊢
    grind
   ·unfold Ho at h⊢
    grind
   grind
  ·grind
theorem ZnT{op:Op}(e:∀o t x y u,op=.binOp o t x y u→JA y=false){v:AV}(d:K v)(h:A2 P H op ρ (fun y=>y=v)):A2 P H op ρ K:=by
 have:(fun y=>y=v)=(fun y=>y=v∧K v):=by funext y;simp[d]
 rw[this]at h
 clear this d
 cases op<;>simp only[A2]at h⊢<;>try exact h.elim
 case move x=>exact h.1▸h.2
 case assign x=>exact h.1▸h.2
 case pick c a b=>
  split at h
  ·grind
  ·grind
 case load t x=>
  unfold EF at h⊢
  split at h
  ·grind
  ·grind
  ·grind
 case fieldAddr=>
  unfold E1 at h⊢
  split at h
  ·grind
  ·grind
  ·grind
 case field=>
  unfold Fb at h⊢
  split at h
  ·split at h
   ·grind
   grind
  ·grind
 case indexAddr=>
  unfold Eu at h⊢
  split at h
  ·grind
  ·grind
  ·grind
 case index=>
  unfold FM at h⊢
  split at h
  ·grind
  ·grind
 case makeInterface=>
  refine⟨h.1,?_⟩
  replace h:=h.2
  repeat' split at h
  all_goals first|exact h.elim|exact h.1▸h.2
 case typeAssert=>
  refine⟨h.1,?_⟩
  replace h:=h.2
  repeat' split at h
  all_goals first|exact h.elim|exact⟨h.1,h.2.1▸h.2.2⟩
 case extract=>
  split at h
  ·grind
  ·grind
 case binOp o t x y u=>
  rw[e _ _ _ _ _ rfl]at h⊢
  unfold CJ at h⊢
  split at h
  ·exact⟨h.1,zm (fun y (hy:y=v∧K v)=>hy.1▸hy.2) h.2⟩
  ·exact zw (fun y (hy:y=v∧K v)=>hy.1▸hy.2) h
  ·grind
  ·unfold Hs at h⊢
   split at h
   ·split at h
    ·grind
    grind
   grind
  ·cases h.1
  ·grind
 case unOp=>
  unfold ER at h⊢
  split at h<;>grind
 case nilCheck=>
  unfold Ja at h⊢
  split at h
  ·grind
  ·grind
  ·grind
 case convert=>
  unfold Fe at h⊢
  split at h
  ·grind
  ·grind
  ·grind
 case makeFunc=>exact h.1▸h.2
 case slice=>
  unfold EA at h⊢
  split at h
  ·grind
  ·grind
  ·grind
  ·grind
 case build=>
  unfold FP at h⊢
  split at h
  ·grind
  ·grind
 case lookup=>exact zC (fun y (hy:y=v∧K v)=>hy.1▸hy.2) h
 case call c=>
  split at h
  ·refine⟨h.1,?_⟩
   replace h:=h.2
   unfold DW at h⊢
   grind
  ·split at h
   ·unfold Em at h⊢
    grind
   ·unfold Ho at h⊢
    grind
   grind
  ·grind
theorem em{o:Oper}(h:CY o=true)(a:∀t len ps,o.op=.buildSlice t (len+1) ps→False):Cv o=true:=by
 unfold CY at h
 rw[YH]at h
 rcases h with h|h
 ·exact h
 ·exfalso
  unfold ag at h
  split at h
  ·rename_i e;exact a _ _ _ e
  ·simp at h
theorem eg{o:Oper}(a:CY o=true):∀b t x y u,o.op=.binOp b t x y u→JA y=false:=by
 intro b t x y u h
 simp only[CY,ag,Cv,h,Ka,Xl,Yc,YK]at a
 exact a.2
theorem ZnZ{o:Oper}{v:AV}(h:∀x∈o.op.operands,ρ x=ρ' x)(a:qV P l H o ρ v):qV P l H o ρ' v:=by
 obtain⟨k,op,type,pos,after,guard⟩:=o
 have d:∀g:Array Operand,(∀x∈g,ρ x=ρ' x)→g.toList.map ρ=g.toList.map ρ':=fun g j=>Ep fun x hx=>j x (by simpa using hx)
 cases op<;>simp only[Op.operands]at h<;>simp only[qV,A2]at a⊢<;>try exact a
 case call c=>
  have j:c.args.toList.map ρ=c.args.toList.map ρ':=d _ fun x hx=>h x (by simp[Call.operands,hx])
  cases i:c.callee with
  |value f=>
   have y:ρ f=ρ' f:=h f (by simp[Call.operands,i])
   grind
  |invoke r m=>simp only[i]at a
  |builtin b=>
   simp only[i]at a⊢
   split at a
   ·rename_i x t w q u
    rw[←h x (by simp[Call.operands,i,jF q])]
    exact a
   ·grind
   grind
 case build t ps=>
  have:(ps.toList.map fun p=>(p.1,ρ p.2))=ps.toList.map fun p=>(p.1,ρ' p.2):=Ep fun p s=>by
   grind
  rw[←this];exact a
 case buildSlice t n ps=>
  cases n with
  |zero=>exact a
  |succ n=>
   have:(ps.toList.map fun p=>(p.1,ρ p.2))=ps.toList.map fun p=>(p.1,ρ' p.2):=Ep fun p s=>by
    grind
   simp only at a⊢
   rw[←this];exact a
 case makeFunc fn first e=>
  rw[←d first fun x hx=>h x (by simp[hx]),←d e fun x hx=>h x (by simp[hx])];exact a
 case slice t x lo hi z=>
  rw[←h x (by simp),show lo.map ρ'=lo.map ρ from by cases lo<;>simp_all,show hi.map ρ'=hi.map ρ from by cases hi<;>simp_all];exact a
 all_goals(first|(simp_all;done))
theorem zT{o:Oper}{s:Nat→AV}{K:St→Prop}(a:CY o=true)(h:FX P l n o K ⟨s,H⟩):∃d v,o.dst=some d∧d<n∧qV P l H o (ev s) v∧K ⟨upd s d v,H⟩:=by
 have m:∃d,o.dst=some d:=by
  have:o.dst.isSome=true:=by
   unfold CY Cv at a
   rw[YH,Yc,Yc]at a
   rcases a with h|h
   ·exact h.1
   ·exact h.1
  exact Y5.1 this
 obtain⟨d,m⟩:=m
 have i:A2 P H o.op (ev s) (CC n o.dst K ⟨s,H⟩)→(∀v,A2 P H o.op (ev s) (fun y=>y=v)→qV P l H o (ev s) v)→∃d v,o.dst=some d∧d<n∧qV P l H o (ev s) v∧K ⟨upd s d v,H⟩:=fun h p=>by
  obtain⟨v,q,b⟩:=ZFy (eg a) h
  rw[m]at b
  exact⟨d,v,m,b.1,p v q,b.2⟩
 unfold FX at h
 split at h
 ·rename_i z
  obtain⟨v,q,b⟩:=h
  rw[m]at b
  refine⟨d,v,m,b.1,?_,b.2⟩
  unfold qV
  rw[z]
  exact q
 ·rename_i c j
  replace a:Cv o=true:=em a fun t n ps e=>by rw[j]at e;cases e
  split at h
  ·rename_i f w
   simp only[]at h
   split at h
   ·rename_i g first A B
    obtain⟨r,q,b⟩:=h
    rw[m]at b
    refine⟨d,r,m,b.1,?_,b.2⟩
    simp only[qV,j,w,B]
    exact q
   ·exact h.elim
  ·rename_i w
   refine i ?_ ?_
   ·unfold Bw at h
    simp only[j]at h
    simp only[Cv,j,Yc]at a
    split at h
    ·rename_i f x;exact absurd x (w f)
    ·rename_i u;rw[u]at a;simp at a
    ·rw[j];exact h
   ·intro v p
    unfold qV
    rw[j]at p⊢
    cases k:c.callee with
    |value f=>exact absurd k (w f)
    |_=>simpa[k]using p
 ·rename_i u j
  replace a:Cv o=true:=em a fun t n ps e=>u _ _ _ e
  refine i ?_ ?_
  ·unfold Bw at h
   split at h
   ·rename_i he;simp[Cv,he]at a
   ·rename_i he;simp[Cv,he]at a
   ·rename_i he;simp[Cv,he]at a
   ·rename_i he;simp[Cv,he]at a
   ·rename_i he;simp[Cv,he]at a
   ·rename_i c he;exact absurd he (j c)
   ·exact h
  ·intro v p
   unfold qV
   split
   ·rename_i he;exact absurd he (u _ _ _)
   ·rename_i c he;exact absurd he (j c)
   ·exact p
theorem ZQ7{o:Oper}{s:Nat→AV}{v:AV}{d:Nat}(q:CY o=true)(b:o.dst=some d)(a:d<n)(h:qV P l H o (ev s) v):CV P l n B o (fun E=>E=⟨upd s d v,H⟩) ⟨s,H⟩:=by
 unfold qV at h
 split at h
 ·rename_i t len parts k
  obtain⟨e,sz,z,G,i,j,u,w,x,y,A,rfl⟩:=h
  exact yI k b i j u w x y A a rfl
 ·rename_i c C
  split at h
  ·rename_i f p
   split at h
   ·rename_i g first m D
    refine Znn C p D (h.mono fun r F ⟨i,j⟩=>?_)
    subst i;subst j
    rw[b]
    exact⟨a,rfl⟩
   grind
  ·rename_i p
   exact Ud (ZnT (eg q) (by rw[b];exact⟨a,rfl⟩) h)
 ·exact Ud (ZnT (eg q) (by rw[b];exact⟨a,rfl⟩) h)
end
section
variable {P:Program} {l n:Nat} {B:Base} {H:Hp} {ops:Array Oper} {md:Region.Mode} {Q:(Nat→AV)→Prop}
def YA(P:Program)(l:Nat)(H:Hp)(ops:Array Oper)(o:Oper)(s:Nat→AV)(v:AV):Prop:=
 match o.guard with
 |none=>qV P l H o (ev s) v
 |some (i,b)=>match IQ s (ops.toList.map (·.dst)) i b with
  |some t=>(t=true→qV P l H o (ev s) v)∧(t=false→v=.tup [])
  |none=>False
theorem km{o:Oper}{s:Nat→AV}{v u:AV}{d:Nat}(k:d∉o.looksAt ops)(h:YA P l H ops o (upd s d u) v):YA P l H ops o s v:=by
 have f:∀x∈o.op.operands,ev (upd s d u) x=ev s x:=fun x hx=>by
  cases x with
  |tmp t=>
   have c:t≠d:=fun e=>k (by
    subst e
    exact HD _ (List.mem_filterMap.2 ⟨.tmp t,by simpa using hx,rfl⟩))
   simp[ev,upd,c]
  |_=>rfl
 unfold YA at*
 cases j:o.guard with
 |none=>simp only[j]at h⊢;exact ZnZ f h
 |some m=>
  obtain⟨i,b⟩:=m
  simp only[j]at h⊢
  have g:IQ (upd s d u) (ops.toList.map (·.dst)) i b=IQ s (ops.toList.map (·.dst)) i b:=by
   unfold IQ
   simp only[YU,YE]
   cases n:ops[i]? with
   |none=>rfl
   |some p=>
    cases a:p.dst with
    |none=>simp[a]
    |some t=>
     have c:t≠d:=fun e=>k (by subst e;simp[Oper.looksAt,j,n,a])
     simp[a,upd,c]
  rw[g]at h
  split at h
  ·rename_i t q
   exact⟨fun e=>ZnZ f (h.1 e),h.2⟩
  ·exact h
theorem ZFQ{o:Oper}{s:Nat→AV}{v u:AV}{d:Nat}(a:d∉o.looksAt ops)(h:YA P l H ops o s v):YA P l H ops o (upd s d u) v:=by
 refine km (d:=d) (u:=s d) a ?_
 have:upd (upd s d u) d (s d)=s:=by funext j;unfold upd;split<;>simp_all
 grind
theorem ZwP{s:Nat→AV}{d e:Nat}{u v:AV}(h:d≠e):upd (upd s d u) e v=upd (upd s e v) d u:=by
 funext j
 unfold upd
 grind
end
def L2(P:Program)(t:TypeId)(i:Nat):Option (Nat×Nat×Bool):=
 match P.underlying t with
 |some (.struct a)=>(a[i]?).bind fun f=>(DD P f.type).map fun b=>(f.offset,P.cellsOf f.type,b)
 |_=>none
def Oj(o:Option (Nat×Nat×Bool))(x:AV)(K:AV→Prop):Prop:=
 match o,x with
 |some (o,n,true),.agg cs=>n≠0∧K (.agg ((cs.drop o).take n))
 |some (o,_,false),.agg cs=>(match cs[o]? with|some c=>K c|none=>False)
 |_,_=>False
theorem ZtJ{P:Program}{t:TypeId}{i:Nat}{x:AV}{K:AV→Prop}:Fb P t i x K=Oj (L2 P t i) x K:=by
 unfold Fb L2
 cases x with
 |agg cs=>
  cases j:P.underlying t with
  |none=>rfl
  |some d=>
   cases d with
   |struct a=>
    simp only
    cases g:a[i]? with
    |none=>rfl
    |some f=>
     simp only[Ya]
     cases c:DD P f.type with
     |none=>rfl
     |some b=>cases b<;>rfl
   |_=>rfl
 |_=>
  have e:∀(o:Option (Nat×Nat×Bool)) (y:AV),(∀cs,y≠.agg cs)→Oj o y K=False:=fun o y h=>by
   unfold Oj
   grind
  grind
structure fins (P:Program) (l:Nat) (H:Hp) (rs:List ResultVar) (Post:AV→Hp→Prop) (e:Exit) (σ:St):Prop where
 he:e=.normal∨e=.ret
 hy:EM P σ rs (fun xs=>∃y,Fz σ.H l (DH xs) y∧Post y (IR l σ.H H))
inductive Fit:D→Prop
 |int (k:IntKind) (n:Int):Fit (.int k n)
 |bool (b:Bool):Fit (.bool b)
 |str (s:ByteArray) (h:s.size<2147483648):Fit (.str s)
 |list (es:List (List D)) (hl:es.length<2147483648) (h:∀e∈es,∀x∈e,Fit x):Fit (.list es)
def Kr(l:List D):Prop:=∀d∈l,Fit d
theorem Fit.len{α:Type}{e:α→List D}{xs:List α}(h:Fit (.list (xs.map e))):xs.length<2147483648:=by
 cases h with|list _ hl h=>simpa using hl
theorem Fit.mem{α:Type}{e:α→List D}{xs:List α}(h:Fit (.list (xs.map e))){x:α}(hx:x∈xs):Kr (e x):=by
 cases h with|list _ hl h=>exact h _ (Xc hx)
theorem Fit.el{α:Type}{e:α→List D}{xs:List α}(h:Fit (.list (xs.map e))){i:Nat}{x:α}(hx:xs[i]?=some x):Kr (e x):=h.mem (Yj hx)
theorem Kr.at{l:List D}(h:Kr l)(i:Nat){d:D}(hi:l[i]?=some d):Fit d:=h d (Yj hi)
theorem Kr.sub{l:List D}(h:Kr l)(i n:Nat){m:List D}(hi:(l.drop i).take n=m):Kr m:=by
 subst hi
 exact fun d a=>h d (RB (Kd a))
def nrm:AV→AV
 |.e0=>.d (.list [])
 |.agg xs=>.agg (xs.map fun x=>match x with|.e0=>.d (.list [])|x=>x)
 |x=>x
section
variable {P:Program} {l n:Nat} {B:Base} {H H':Hp} {K:St→Prop} {σ σ':St} {Q:Exit→St→Prop} {s:Nat→AV} {ds:List (Option Nat)} {d:Option Nat} {op:Op} {ty:TypeId} {ps:String} {af:Array Edge} {rest:List Oper}
 {g:Option (Nat×Bool)} {x y:Operand} {t:TypeId}
theorem eH{a b:Code}(h:BH P l n B a (vx (BH P l n B b Q) Q) σ):BH P l n B (.seq a b) Q σ:=ZHM fun _ c=>HQ h fun e σ' h=>by
 cases e<;>first|exact c σ' h|exact h
theorem MH{a:Int}{i:Nat}(h:a=(i:Int))(hi:i<9223372036854775808):IntKind.wrap .i64 a=(i:Int):=by
 subst h
 exact IntWalk.i64_in _ ⟨by omega,by omega⟩
theorem ZvX{f:FuncId}{fn:Func}(g:List ResultVar){c:Code}{xs:List AV}{a:AV→Hp→Prop}(j:P.funcs[f]?=some fn)(i:fn.body=some c)(b:(fn.name== "runtime.NumGoroutine")=false)
  (k:fn.ntmps=n) (m:fn.results.toList=g) (hx:xs.length≤n) (h:∀B:Base,BH P l n B c (fins P l H g a) ⟨args xs,Dk l H⟩):Zc3 P f l xs H a:=by
 refine ZxA j i b k hx fun B=>HQ (h B) fun e σ d=>?_
 unfold xc
 rw[m]
 exact⟨d.he,d.hy⟩
theorem Fz.data{xs:List D}:Fz H' l (.agg (xs.map .d)) (.agg (xs.map .d)):=
 .agg _ _ rfl fun i x y hx hy=>by
  rw[hx]at hy;cases hy
  rw[YU]at hx
  cases hi:xs[i]? with
  |none=>rw[hi]at hx;cases hx
  |some d=>rw[hi]at hx;cases hx;exact .keep _ rfl
theorem Fz.pure{xs:List AV}{ds:List D}(h:Dy xs=some ds):Fz H' l (.agg xs) (.agg (ds.map .d)):=
 .agg _ _ (by rw[YG];exact dR h) fun i x y hx hy=>by
  rw[YU]at hy
  cases hi:ds[i]? with
  |none=>rw[hi]at hy;cases hy
  |some d=>
   rw[hi]at hy;cases hy
   have:=zZ h hx hi
   cases x<;>simp only[GF]at this<;>cases this
   ·exact .keep _ rfl
   ·exact .e0
theorem Fz.d'{x:AV}{y:D}(h:x=.d y):Fz H' l x (.d y):=by subst h;exact .keep _ rfl
theorem Fz.two{x y x' e:AV}(hx:Fz H' l x x')(hy:Fz H' l y e):Fz H' l (DH [x,y]) (.tup [x',e]):=
 .tup _ _ rfl fun i a b c d=>by
  match i with
  |0=>cases c;cases d;exact hx
  |1=>cases c;cases d;exact hy
  |i+2=>simp at c
theorem Fz.one{x x':AV}(hx:Fz H' l x x'):Fz H' l (DH [x]) x':=hx
theorem RepA.nrm{S:Nat→Prop}{m:Mu}{w:World}{x:AV}{v:Value}(h:RepA w S H m l x v):RepA w S H m l (nrm x) v:=by
 cases x with
 |e0=>exact h.e0_d
 |agg xs=>
  cases h with
  |agg _ vs hx a h=>
   refine .agg _ _ (by simpa using hx) a (fun i y v hy b=>?_)
   rw[YU]at hy
   cases hi:xs[i]? with
   |none=>rw[hi]at hy;cases hy
   |some x=>
    rw[hi]at hy
    simp only[YY,Yk]at hy
    subst hy
    have:=h i x v hi b
    split
    ·exact this.e0_d
    grind
 |_=>exact h
theorem Zc3.nrm{f:FuncId}{xs:List AV}{a:AV→Hp→Prop}(h:Zc3 P f l (xs.map nrm) H a):Zc3 P f l xs H a:=
 ⟨h.1,fun m S w vs c b=>h.2 m S w vs c ⟨by simpa using b.1,fun i x v hx d=>by
  rw[YU]at hx
  cases hi:xs[i]? with
  |none=>rw[hi]at hx;cases hx
  |some y=>
   rw[hi]at hx
   simp only[YY,Yk]at hx
   subst hx
   exact(b.2 i y v hi d).nrm⟩⟩
end
def PN:List Operand→List Nat
 |[]=>[]
 |.tmp t::r=>t::PN r
 |_::r=>PN r
def L9:List (Option Nat)→Nat→Option Nat
 |[],_=>none
 |x::_,0=>x
 |_::r,i+1=>L9 r i
def FT(ds:List (Option Nat))(o:Oper):List Nat:=
 PN o.op.operands.toList++match o.guard with
  |some (g,_)=>(match L9 ds g with|some d=>[d]|none=>[])
  |none=>[]
def FW:List (Nat×Nat)→Nat→Option Nat
 |[],_=>none
 |(d,k)::r,t=>match Nat.beq d t with|true=>some k|false=>FW r t
def B7(o:Oper)(i:Nat):Bool:=o.after.toList.any fun e=>Region.binds .any e&&Nat.beq e.on i
def clear(o:Oper)(d:Nat):List (Nat×Nat)→Bool
 |[]=>true
 |(t,i)::r=>(match Nat.beq t d with|true=>B7 o i|false=>true)&&clear o d r
theorem ZnU{o:Oper}{d i:Nat}:∀{l:List (Nat×Nat)},clear o d l=true→(d,i)∈l→B7 o i=true
 |[],_,h=>by cases h
 |(t,j)::r,a,h=>by
  simp only[clear,Yc]at a
  rcases Yx.1 h with h|h
  ·cases h
   have:=a.1
   rw[Ru]at this
   exact this
  ·exact ZnU a.2 h
def M9(ds:List (Option Nat)):Nat→List (Nat×Nat)→List (Nat×Nat)→List Oper→Bool
 |_,_,_,[]=>true
 |k,seen,a,o::r=>
  (o.after.toList.all fun e=>!Region.binds .any e||Nat.ble (e.on+1) k)&&
  ((FT ds o).all fun t=>match FW seen t with|some i=>B7 o i|none=>true)&&
  match o.dst with
  |some d=>(FW seen d).isNone&&clear o d a&&M9 ds (k+1) ((d,k)::seen) ((FT ds o).map (·,k)++a) r
  |none=>M9 ds (k+1) seen ((FT ds o).map (·,k)++a) r
def Vy:List Oper→Bool
 |[]=>true
 |o::r=>(match o.op with|.select _ _=>false|_=>true)&&Vy r
def Wy(ops:List Oper):Bool:=Vy ops&&M9 (ops.map (·.dst)) 0 [] [] ops
theorem ZsL(xs:List Operand):PN xs=xs.filterMap fun|.tmp t=>some t|_=>none:=by
 induction xs with
 |nil=>rfl
 |cons x xs a=>cases x<;>simp[PN,a]
theorem Zqu:∀(ds:List (Option Nat)) (i:Nat),L9 ds i=(ds[i]?).join
 |[],i=>by simp[L9]
 |x::r,0=>by simp[L9]
 |x::r,i+1=>by simp[L9,Zqu r i]
theorem Zot(ops:List Oper)(o:Oper):FT (ops.map (·.dst)) o=o.looksAt ops.toArray:=by
 unfold FT Oper.looksAt
 rw[ZsL]
 congr 1
 cases d:o.guard with
 |none=>rfl
 |some a=>
  obtain⟨g,b⟩:=a
  simp only
  rw[Zqu,YU]
  simp only[jG]
  cases ops[g]? with
  |none=>rfl
  |some c=>simp only[YY,Option.join_some,Ya];cases c.dst<;>rfl
structure FInv (ds:List (Option Nat)) (pre:List Oper) (seen:List (Nat×Nat)) (looked:List (Nat×Nat)):Prop where
 s1:∀d i,FW seen d=some i→∃o,pre[i]?=some o∧o.dst=some d
 s2:∀(i:Nat) (o:Oper) (d:Nat),pre[i]?=some o→o.dst=some d→FW seen d=some i
 lo:∀(i:Nat) (o:Oper),pre[i]?=some o→∀t∈FT ds o,(t,i)∈looked
def U8(ds:List (Option Nat))(x y:Oper):Prop:=(∀d,x.dst=some d→d∉FT ds y∧y.dst≠some d)∧(∀d,y.dst=some d→d∉FT ds x)
theorem y3(ds:List (Option Nat)):∀(s pre:List Oper) (seen c:List (Nat×Nat)),FInv ds pre seen c→M9 ds pre.length seen c s=true→
  ∀(j:Nat) (p:Oper),s[j]?=some p→(∀e∈p.after,Region.binds .any e=true→e.on<pre.length+j)∧
   ∀(i:Nat) (n:Oper),i<pre.length+j→(pre++s)[i]?=some n→B7 p i=true∨U8 ds n p
 |[],pre,seen,c,v,h,j,p,B=>by simp at B
 |o::r,pre,seen,c,v,h,j,p,B=>by
  simp only[M9,Yc]at h
  obtain⟨⟨H,I⟩,u⟩:=h
  cases j with
  |zero=>
   simp only[Gl,Yk]at B
   subst B
   refine⟨fun e he E=>?_,fun i n hi g=>?_⟩
   ·have:=Yu.1 H e (by simpa using he)
    simp only[E,Y7,Kh]at this
    have:=Yh this
    omega
   ·rw[Ys (by omega)]at g
    by_cases A:B7 o i=true
    ·exact .inl A
    ·right
     refine⟨fun d w=>⟨fun hm=>?_,fun k=>?_⟩,fun d w hm=>?_⟩
     ·have:=Yu.1 I d hm
      rw[v.s2 i n d g w]at this
      exact A this
     ·rw[k]at u
      simp only[Yc]at u
      have:=u.1.1
      rw[v.s2 i n d g w]at this
      cases this
     ·rw[w]at u
      simp only[Yc]at u
      exact A (ZnU u.1.2 (v.lo i n g d hm))
  |succ j=>
   simp only[LQ]at B
   have q:∀(f:List (Nat×Nat)),(∀d i,FW f d=some i→∃m,(pre++[o])[i]?=some m∧m.dst=some d)→(∀(i:Nat) (m:Oper) (d:Nat),(pre++[o])[i]?=some m→m.dst=some d→FW f d=some i)→
     FInv ds (pre++[o]) f ((FT ds o).map (·,pre.length)++c):=fun f a b=>⟨a,b,fun i m g t G=>by
    rcases N5 i pre.length with l|heq|C
    ·rw[Ys l]at g;exact jH _ (v.lo i m g t G)
    ·subst heq;simp at g;subst g;exact HD _ (YV.2 ⟨t,G,rfl⟩)
    ·rw[YL (by simp;omega)]at g;cases g⟩
   have fin:∀f,FInv ds (pre++[o]) f ((FT ds o).map (·,pre.length)++c)→M9 ds (pre.length+1) f ((FT ds o).map (·,pre.length)++c) r=true→_:=fun f D K=>
    y3 ds r (pre++[o]) f ((FT ds o).map (·,pre.length)++c) D (by simpa using K) j p B
   have conv:(∀e∈p.after,Region.binds .any e=true→e.on<(pre++[o]).length+j)∧(∀(i:Nat) (n:Oper),i<(pre++[o]).length+j→(pre++[o]++r)[i]?=some n→B7 p i=true∨U8 ds n p)→
     (∀e∈p.after,Region.binds .any e=true→e.on<pre.length+(j+1))∧(∀(i:Nat) (n:Oper),i<pre.length+(j+1)→(pre++o::r)[i]?=some n→B7 p i=true∨U8 ds n p):=by
    rintro⟨a,b⟩
    simp only[Yq,Dt,GU,D5,HG,Fy]at a b
    exact⟨fun e he E=>by have:=a e he E;omega,fun i n hi g=>b i n (by omega) g⟩
   split at u
   ·rename_i d w
    simp only[Yc]at u
    obtain⟨⟨F,L⟩,J⟩:=u
    have z:FW seen d=none:=by cases x:FW seen d with|none=>rfl|some i=>rw[x]at F;cases F
    refine conv (fin _ (q ((d,pre.length)::seen) (fun d' i x=>?_) (fun i m d' g k=>?_)) J)
    ·simp only[FW]at x
     split at x
     ·rename_i he;cases x;rw[←Yd he];exact⟨o,by simp,w⟩
     ·obtain⟨m,a,b⟩:=v.s1 d' i x
      refine⟨m,?_,b⟩
      rw[Ys];exact a
      rcases YF i pre.length with l|y
      ·exact l
      ·rw[YL y]at a;cases a
    ·simp only[FW]
     rcases N5 i pre.length with l|heq|C
     ·rw[Ys l]at g
      have:=v.s2 i m d' g k
      split
      ·rename_i he
       rw[←Yd he,z]at this;cases this
      ·exact this
     ·subst heq;simp at g;subst g;rw[w]at k;cases k;simp
     ·rw[YL (by simp;omega)]at g;cases g
   ·rename_i w
    refine conv (fin _ (q seen (fun d' i x=>?_) (fun i m d' g k=>?_)) u)
    ·obtain⟨m,a,b⟩:=v.s1 d' i x
     refine⟨m,?_,b⟩
     rw[Ys];exact a
     rcases YF i pre.length with l|y
     ·exact l
     ·rw[YL y]at a;cases a
    ·rcases N5 i pre.length with l|heq|C
     ·rw[Ys l]at g;exact v.s2 i m d' g k
     ·subst heq;simp at g;subst g;rw[w]at k;cases k
     ·rw[YL (by simp;omega)]at g;cases g
theorem Zlx{ops:List Oper}{x y:Oper}(h:U8 (ops.map (·.dst)) x y):x.apart ops.toArray y=true:=by
 obtain⟨a,c⟩:=h
 rw[Zot]at c
 have b:∀d,x.dst=some d→d∉y.looksAt ops.toArray∧y.dst≠some d:=fun d e=>by have:=a d e;rw[Zot]at this;exact this
 unfold Oper.apart
 grind
theorem zh{ops:Array Oper}(m:∀(j:Nat) (c:Oper),ops[j]?=some c→∀e∈c.after,Region.binds .any e=true→e.on<j)
  (n:∀(i j:Nat) (o c:Oper),i<j→ops[i]?=some o→ops[j]?=some c→B7 c i=true∨o.apart ops c=true):
  ∀(fuel k:Nat) (a:Array Bool),fuel+k=ops.size→a.size=ops.size→(∀j,j<ops.size→a[j]?=some (decide (j<k)))→Region.lexFrom .any ops fuel k a=true
 |0,k,a,q,hs,hl=>by
  simp only[Region.lexFrom]
  rw[List.isEmpty_iff,Region.ready,W8]
  intro i hi
  have hi:=RA.1 hi
  have:=hl i hi
  simp[YC,this]
  omega
 |fuel+1,k,a,q,hs,hl=>by
  have g:k<ops.size:=by omega
  have b:ops[k]?=some ops[k]:=Yv g
  simp only[Region.lexFrom,Yc]
  refine⟨⟨?_,?_⟩,zh m n fuel (k+1) _ (by omega) (by simp[hs]) (fun j d=>?_)⟩
  ·rw[List.contains_iff_mem]
   unfold Region.ready
   refine Du.2 ⟨RA.2 g,?_⟩
   rw[Yc]
   refine⟨by simp[YC,hl k g],?_⟩
   rw[b]
   simp only[YY,YM]
   rw[Array.all_eq_true_iff_forall_mem]
   intro e he
   by_cases p:Region.binds .any e=true
   ·have:=m k _ b e he p
    simp[YC,hl e.on (by omega),this]
   grind
  ·unfold Region.free
   rw[b]
   simp only[Yu,RA]
   intro j d
   rw[YH,YH]
   rcases N5 j k with l|heq|f
   ·left;right;simp[YC,hl j d,l]
   ·grind
   ·right
    rw[Yv d]
    simp only
    rw[YH]
    rcases n k j _ _ f b (Yv d)with h|h
    ·left
     unfold B7 at h
     obtain⟨e,he,h⟩:=YR.1 h
     rw[←Array.any_toList]
     exact YR.2 ⟨e,he,by simpa using h⟩
    grind
  grind
theorem y6{ops:List Oper}(h:Wy ops=true):Region.lexB .any ops.toArray=true:=by
 unfold Wy at h
 rw[Yc]at h
 have g:∀(l:List Oper),Vy l=true→l.all (fun o=>match o.op with|.select ..=>false|_=>true)=true:=fun l=>by
  induction l with
  |nil=>intro _;rfl
  |cons o l p=>
   intro m
   simp only[Vy,Yc]at m
   grind
 have key:=y3 (ops.map (·.dst)) ops [] [] [] ⟨fun d i k=>by simp[FW]at k,fun i o d e=>by simp at e,fun i o e=>by simp at e⟩ h.2
 simp only[GU,YN,Fy]at key
 unfold Region.lexB
 rw[Yc]
 refine⟨?_,zh (fun j f b=>(key j f (by simpa using b)).1) (fun i j n f c hi b=>?_) _ 0 _ rfl (by simp) (fun j b=>by simp at b⊢;simp[b])⟩
 ·unfold Region.noSelect
  grind
 ·rcases(key j f (by simpa using b)).2 i n c (by simpa using hi)with a|a
  ·grind
  ·exact .inr (Zlx a)
structure TI where
 agg:Bool:=false
 kin:Nat:=0
 siz:Nat:=1
 elm:Option (Nat×Nat):=none
 fld:List (Nat×Nat×Bool):=[]
 zer:Option (List AV):=none
 eqt:Option (List Nat):=none
 str:Bool:=false
 ik:Option IntKind:=none
 byt:Option Nat:=none
 mp:Option (Bool×List D):=none
def AV.flat:AV→Bool
 |.d _|.e0|.p _|.iptr _ _=>true
 |_=>false
structure TIok (P:Program) (t:TypeId) (i:TI):Prop where
 agg:DD P t=some i.agg
 kin:kin P t=i.kin
 siz:P.cellsOf t=i.siz
 elm:∀e,i.elm=some e→Go.Eng.elm P t=some e
 fld:∀(j:Nat) (x:Nat×Nat×Bool),i.fld[j]?=some x→Go.Eng.fld P t j=some (x.1,x.2.1)∧L2 P t j=some x
 zer:∀z,i.zer=some z→Go.Eng.zer P t=some z
 eqt:∀z,i.eqt=some z→Nx P t=some z
 str:i.str=true→Md P t=true
 ik:∀z,i.ik=some z→P.underlying t=some (.int z)
 byt:∀z,i.byt=some z→P.bytesOf t≤z∧P.bytesOf t≠0
 flt:∀z,i.zer=some z→z.all AV.flat=true
 mp:∀z,i.mp=some z→Me P t=some z
def A8(P:Program)(T:Nat→Option TI):Prop:=∀t i,T t=some i→TIok P t i
inductive AT where
 |nil
 |go (r:AT)
 |av (x:AV) (r:AT)
 |cs (c:List AV) (r:AT)
 |ds (e:List D) (r:AT)
 |num (n:Int) (r:AT)
 |nat (n:Nat) (r:AT)
 |call (x:AV) (ks:List Ad) (r:AT)
 |callH (x:AV) (ks:List Ad) (hb:List (Ad×List AV)) (r:AT)
 |br (a b:AT)
 |frz (d:Nat) (js:List (Nat×List (List D))) (cs:List (Ad×Nat×List (List D))) (r:AT)
 |adc (k:Ad) (i d:Nat) (e:TypeId) (sz:Nat) (r:AT)
 |mv (d j:Nat) (r:AT)
 |ads (j d:Nat) (e:TypeId) (sz:Nat) (r:AT)
 |trim (k:Ad) (c:List AV) (r:AT)
 |reb (j d m:Nat) (c:List AV) (r:AT)
 |sep (r:AT)
 |hard (x:AV) (ks:List Ad) (hb:List (Ad×Blk)) (fr:List Ad) (r:AT)
 |ents (es:List (List D)) (r:AT)
 |all (a:AT) (f:Nat→AT)
 |fzm (d:Nat) (js:List Nat) (r:AT)
 |fzb (d:Nat) (js:List Nat) (r:AT)
 |rnm (d d' e i:Nat) (r:AT)
 |mvc (d q e i:Nat) (r:AT)
 |one (v:Bool) (r:AT)
structure Ren where
 κ:Ad→Ad
 γ:Ad→Nat
 θ:Nat→AV
 H0:Hp
 no:Ad→Prop
mutual
def ren(r:Ren):AV→AV
 |.ref k g off n=>.ref (r.κ k) (r.γ k+g) off n
 |.ptr k g off=>.ptr (r.κ k) (r.γ k+g) off
 |.mp k g=>.mp (r.κ k) (r.γ k+g)
 |.fn f xs ys=>match f with
  |.yield i=>r.θ i
  |f=>.fn f (Ao r xs) (Ao r ys)
 |.agg xs=>.agg (Ao r xs)
 |.tup xs=>.tup (Ao r xs)
 |.top=>.top
 |.d x=>.d x
 |.e0=>.e0
 |.p x=>.p x
 |.iptr cs off=>.iptr cs off
 |.ifc t ds a=>.ifc t ds a
def Ao(r:Ren):List AV→List AV
 |[]=>[]
 |x::xs=>ren r x::Ao r xs
end
def AL(r:Ren)(k:Ad)(b:Blk):Blk:=⟨r.γ k+b.g,true,b.e,b.sz,Ao r b.cells⟩
theorem FK{r:Ren}(xs:List AV):Ao r xs=xs.map (ren r):=by
 induction xs with
 |nil=>simp[Ao]
 |cons x xs a=>simp[Ao,a]
theorem CF{r:Ren}(xs:List AV):(Ao r xs).length=xs.length:=by rw[FK,YG]
theorem G4{r:Ren}(xs ys:List AV):Ao r (xs++ys)=Ao r xs++Ao r ys:=by simp[FK]
theorem EY{r:Ren}(xs:List AV)(n:Nat):(Ao r xs).drop n=Ao r (xs.drop n):=by simp[FK]
theorem FI{r:Ren}(xs:List AV)(n:Nat):(Ao r xs).take n=Ao r (xs.take n):=by simp[FK]
theorem HU{r:Ren}(xs:List AV)(n:Nat):(Ao r xs)[n]?=(xs[n]?).map (ren r):=by simp[FK]
theorem HX{r:Ren}(xs:List D):Ao r (xs.map .d)=xs.map .d:=by
 induction xs with
 |nil=>simp[Ao]
 |cons x xs a=>simp only[YS,Ao,ren,a]
theorem ZvP{r:Ren}{xs:List AV}(h:xs≠[]):Ao r xs≠[]:=by cases xs<;>simp_all[Ao]
def DK(r:Ren)(H a:Hp):Prop:=∀k,(H k).live=true→a (r.κ k)=AL r k (H k)
def Bk{α:Type}:List α→Nat→Option α
 |[],_=>none
 |x::_,0=>some x
 |_::xs,i+1=>Bk xs i
theorem Cn{α:Type}:∀(xs:List α) (i:Nat),Bk xs i=xs[i]?
 |[],i=>by simp[Bk]
 |x::xs,0=>by simp[Bk]
 |x::xs,i+1=>by simp[Bk,Cn xs i]
def JE{α:Type}:Nat→List α→Option (List α)
 |0,_=>some []
 |n+1,x::xs=>match JE n xs with|some r=>some (x::r)|none=>none
 |_+1,[]=>none
theorem eo{α:Type}:∀(n:Nat) (xs r:List α),JE n xs=some r→xs.take n=r∧n≤xs.length
 |0,xs,r,h=>by simp only[JE,Yk]at h;subst h;simp
 |n+1,[],r,h=>by simp[JE]at h
 |n+1,x::xs,r,h=>by
  simp only[JE]at h
  split at h
  ·rename_i q a
   cases h
   obtain⟨b,c⟩:=eo n xs q a
   grind
  ·cases h
def BU(H:Hp)(k:Ad)(g:Nat):Bool:=Nat.beq g (H k).g&&(H k).live
theorem Ey{H:Hp}{k:Ad}{g:Nat}(h:BU H k g=true):g=(H k).g∧(H k).live=true:=by
 simp only[BU,Yc]at h
 exact⟨Yd h.1,h.2⟩
theorem DK.at{r:Ren}{H a:Hp}(h:DK r H a){k:Ad}{g:Nat}(hl:BU H k g=true):r.γ k+g=(a (r.κ k)).g∧(a (r.κ k)).live=true∧(a (r.κ k)).e=(H k).e∧(a (r.κ k)).sz=(H k).sz∧(a (r.κ k)).cells=Ao r (H k).cells:=by
 obtain⟨b,c⟩:=Ey hl
 rw[h k c]
 subst b
 exact⟨rfl,rfl,rfl,rfl,rfl⟩
def Bh(g:Option Bool)(S:Prop):Prop:=
 match g with
 |none=>S
 |some b=>b=true→S
theorem Bu{g:Option Bool}{S:Prop}(a:∀b,g=some b→b=true)(h:Bh g S):S:=by
 unfold Bh at h
 grind
def DR(cs:List AV)(off:Nat)(c:List AV):Prop:=(cs.drop off).take c.length=c
def I7(a:List (List D))(n:Int)(e:List D):Prop:=0≤n∧a[n.toNat]?=some e
def L6(n:Int)(len off sz o:Nat):Prop:=0≤n∧n<len∧(off+n.toNat)*sz=o
def I8(s:ByteArray)(n b:Int):Prop:=0≤n∧∃x:UInt8,s.data.toList[n.toNat]?=some x∧b=x.toNat
def Cq(k:IntKind)(a r:Int):Prop:=k.wrap a=r
def BC(a b:Int):Prop:=a=b
def Rn(a b:Int):Prop:=a≠b
def Rl(a b:Int):Prop:=a≤b
def yf(a b:ByteArray):Prop:=a.size+b.size≤9223372036854775807
def D2(dflt:Nat)(o:Option AV)(l:Nat):Prop:=
 match o with
 |none=>l=dflt
 |some (.d (.int _ n))=>n=l
 |_=>False
def Gi(l h n:Nat):Prop:=l≤h∧h≤n
def Rp(es:List (List D))(sz l h:Nat)(a:List (List D)):Prop:=(∀e,e∈es→e.length=sz)∧(es.drop l).take (h-l)=a
def W0(off l h o n:Nat):Prop:=off+l=o∧h-l=n
def Zq(t:Bool)(a b:AV):AV:=
 match a,b with
 |.d (.bool x),.d (.bool y)=>.d (.bool (cond t x y))
 |a,b=>cond t a b
theorem Zy1(t:Bool)(a b:AV):Zq t a b=if t then a else b:=by
 unfold Zq
 grind
def M7(i:TI)(H:Hp)(x:AV)(g:Option Bool)(a:AT)(K:AV→AT→Prop):Prop:=
 match x with
 |.iptr cs off=>match i.agg with
  |true=>match Nat.ble 1 i.siz,JE i.siz (cs.drop off)with|true,some c=>K (.agg (c.map .d)) a|_,_=>False
  |false=>match Bk cs off with|some c=>K (.d c) a|none=>False
 |.ptr k q off=>match BU H k q with
  |true=>match a with
   |.go r=>(match i.agg with
    |true=>match Nat.ble 1 i.siz,JE i.siz ((H k).cells.drop off)with|true,some c=>K (.agg c) r|_,_=>False
    |false=>match Bk (H k).cells off with|some c=>K c r|none=>False)
   |.cs c r=>(match i.agg with
    |true=>match Nat.ble 1 i.siz,Nat.beq c.length i.siz with|true,true=>Bh g (DR (H k).cells off c)∧K (.agg c) r|_,_=>False
    |false=>match c with|[x]=>Bh g (DR (H k).cells off [x])∧K x r|_=>False)
   |_=>False
  |false=>False
 |_=>False
def Tn(i:TI)(H:Hp)(f:Nat)(x:AV)(a:AT)(K:AV→AT→Prop):Prop:=
 match Bk i.fld f with
 |some (o,n,_)=>match Nat.ble 1 n with
  |true=>(match x with
   |.iptr cs off=>K (.iptr cs (off+o)) a
   |.ptr k q off=>match BU H k q with|true=>K (.ptr k q (off+o)) a|false=>False
   |_=>False)
  |false=>False
 |none=>False
def UW(i:TI)(f:Nat)(x:AV)(a:AT)(K:AV→AT→Prop):Prop:=
 match Bk i.fld f,x with
 |some (o,n,true),.agg cs=>(match Nat.ble 1 n with|true=>K (.agg ((cs.drop o).take n)) a|false=>False)
 |some (o,_,false),.agg cs=>(match Bk cs o with|some c=>K c a|none=>False)
 |_,_=>False
def To(i:TI)(H:Hp)(x j:AV)(g:Option Bool)(a:AT)(K:AV→AT→Prop):Prop:=
 match i.elm,j with
 |some (_,sz),.d (.int _ n)=>(match x,a with
  |.d (.list b),.ds e r=>(match Nat.beq e.length sz,Nat.ble 1 sz with|true,true=>Bh g (I7 b n e)∧K (.iptr e 0) r|_,_=>False)
  |.ref k q off len,.nat o r=>(match BU H k q,Nat.beq (H k).sz sz,Nat.ble 1 sz with|true,true,true=>Bh g (L6 n len off sz o)∧K (.ptr k q o) r|_,_,_=>False)
  |_,_=>False)
 |_,_=>False
def UJ(i:TI)(x j:AV)(g:Option Bool)(a:AT)(K:AV→AT→Prop):Prop:=
 match x,j,a with
 |.d (.str s),.d (.int _ n),.num b r=>(match Nat.beq i.kin 2 with|true=>Bh g (I8 s n b)∧K (.d (.int .u8 b)) r|false=>False)
 |_,_,_=>False
def SL(op:BinOp)(k:IntKind)(x y:Int)(g:Option Bool)(a:AT)(K:AV→AT→Prop):Prop:=
 match op with
 |.eql=>K (.d (.bool (decide (x=y)))) a
 |.neq=>K (.d (.bool (!decide (x=y)))) a
 |.lss=>K (.d (.bool (decide (x<y)))) a
 |.leq=>K (.d (.bool (decide (x≤y)))) a
 |.gtr=>K (.d (.bool (decide (y<x)))) a
 |.geq=>K (.d (.bool (decide (y≤x)))) a
 |.add=>match a with|.num n r=>Bh g (Cq k (x+y) n)∧K (.d (.int k n)) r|_=>False
 |.sub=>match a with|.num n r=>Bh g (Cq k (x-y) n)∧K (.d (.int k n)) r|_=>False
 |.mul=>match a with|.num n r=>Bh g (Cq k (x*y) n)∧K (.d (.int k n)) r|_=>False
 |.quo=>match a with|.num n r=>Bh g (Rn y 0)∧Bh g (Cq k (x.tdiv y) n)∧K (.d (.int k n)) r|_=>False
 |.rem=>match a with|.num n r=>Bh g (Rn y 0)∧Bh g (BC (x.tmod y) n)∧K (.d (.int k n)) r|_=>False
 |.shr=>match a with|.num n r=>Bh g (Rl 0 y)∧Bh g (BC (x.fdiv (2^(min y.toNat k.bits))) n)∧K (.d (.int k n)) r|_=>False
 |.shl=>match a with|.num n r=>Bh g (Rl 0 y)∧Bh g (Cq k (x*2^(min y.toNat k.bits)) n)∧K (.d (.int k n)) r|_=>False
 |.and=>match a with|.num n r=>Bh g (BC (Dh k x y) n)∧K (.d (.int k n)) r|_=>False
 |.or=>match a with|.num n r=>Bh g (BC (GO k x y) n)∧K (.d (.int k n)) r|_=>False
 |.xor=>match a with|.num n r=>Bh g (BC (Ma k x y) n)∧K (.d (.int k n)) r|_=>False
 |_=>False
def SH(op:BinOp)(x y:ByteArray)(g:Option Bool)(a:AT)(K:AV→AT→Prop):Prop:=
 match op with
 |.add=>Bh g (yf x y)∧K (.d (.str (x++y))) a
 |.eql=>K (.d (.bool (decide (x=y)))) a
 |.neq=>K (.d (.bool (!decide (x=y)))) a
 |.lss=>K (.d (.bool (BB x y))) a
 |.leq=>K (.d (.bool (BB x y||decide (x=y)))) a
 |.gtr=>K (.d (.bool (!(BB x y||decide (x=y))))) a
 |.geq=>K (.d (.bool (!BB x y))) a
 |_=>False
def Mh(H:Hp)(neg:Bool)(x:AV)(a:AT)(K:AV→AT→Prop):Prop:=
 match x with
 |.e0=>∀b,K (.d (.bool b)) a
 |.d (.list c)=>∀b,(c≠[]→b=neg)→K (.d (.bool b)) a
 |.ref k q _ n=>(match BU H k q with|true=>∀b,(n≠0→b=neg)→K (.d (.bool b)) a|false=>False)
 |_=>False
def ikB:IntKind→IntKind→Bool
 |.i8,.i8|.i16,.i16|.i32,.i32|.i64,.i64|.u8,.u8|.u16,.u16|.u32,.u32|.u64,.u64=>true
 |_,_=>false
theorem ZMr{a b:IntKind}(h:ikB a b=true):a=b:=by cases a<;>cases b<;>first|rfl|cases h
def Ss(i:TI)(H:Hp)(op:BinOp)(c:Bool)(x y:AV)(g:Option Bool)(a:AT)(K:AV→AT→Prop):Prop:=
 match x,y with
 |.d (.int k m),.d (.int k' n)=>(match ikB k k' with|true=>SL op k m n g a K|false=>False)
 |.d (.str m),.d (.str n)=>SH op m n g a K
 |.d (.bool m),.d (.bool n)=>(match Nat.beq i.kin 1 with
  |true=>(match op with
   |.eql=>K (.d (.bool (m==n))) a
   |.neq=>K (.d (.bool (!(m==n)))) a
   |_=>False)
  |false=>False)
 |.agg xs,.agg ys=>(match i.eqt with
  |some ks=>(match EE ks xs ys with
   |some b=>(match op with
    |.eql=>K (.d (.bool b)) a
    |.neq=>K (.d (.bool (!b))) a
    |_=>False)
   |none=>False)
  |none=>False)
 |x,.e0=>(match c,Nat.beq i.kin 4 with
  |true,true=>(match op with
   |.eql=>Mh H false x a K
   |.neq=>Mh H true x a K
   |_=>False)
  |_,_=>False)
 |_,_=>False
def WK(op:UnOp)(x:AV)(g:Option Bool)(a:AT)(K:AV→AT→Prop):Prop:=
 match op,x with
 |.not,.d (.bool b)=>K (.d (.bool (!b))) a
 |.neg,.d (.int k n)=>(match a with|.num m r=>Bh g (Cq k (0-n) m)∧K (.d (.int k m)) r|_=>False)
 |.xor,.d (.int k n)=>(match a with|.num m r=>Bh g (BC (I2 k n) m)∧K (.d (.int k m)) r|_=>False)
 |_,_=>False
def VQ(s d:TI)(x:AV)(g:Option Bool)(a:AT)(K:AV→AT→Prop):Prop:=
 match x with
 |.d (.int _ n)=>(match s.ik,d.ik,a with|some _,some k,.num m r=>Bh g (Cq k n m)∧K (.d (.int k m)) r|_,_,_=>False)
 |.d (.str s')=>(match Nat.beq s.kin 2,Nat.beq d.kin 2 with|true,true=>K (.d (.str s')) a|_,_=>False)
 |_=>False
def UD(i:TI)(H:Hp)(x:AV)(lo hi:Option AV)(e:Bool)(g:Option Bool)(a:AT)(K:AV→AT→Prop):Prop:=
 match e,a with
 |false,.nat l (.nat h r)=>(match x with
  |.d (.str s)=>(match Nat.beq i.kin 2 with|true=>Bh g (D2 0 lo l)∧Bh g (D2 s.size hi h)∧Bh g (Gi l h s.size)∧K (.d (.str (s.extract l h))) r|false=>False)
  |.d (.list es)=>(match i.elm,r with
   |some (_,sz),.av (.d (.list b)) r=>(match Nat.ble 1 sz with
    |true=>Bh g (D2 0 lo l)∧Bh g (D2 es.length hi h)∧Bh g (Gi l h es.length)∧Bh g (Rp es sz l h b)∧K (.d (.list b)) r
    |false=>False)
   |_,_=>False)
  |.ref k q off n=>(match i.elm,r,BU H k q with
   |some (_,sz),.nat d (.nat c r),true=>(match Nat.ble 1 sz,Nat.beq (H k).sz sz with
    |true,true=>Bh g (D2 0 lo l)∧Bh g (D2 n hi h)∧Bh g (Gi l h n)∧Bh g (W0 off l h d c)∧K (.ref k q d c) r
    |_,_=>False)
   |_,_,_=>False)
  |_=>False)
 |_,_=>False
def SM(i:TI)(H:Hp)(x:AV)(g:Option Bool)(a:AT)(K:AV→AT→Prop):Prop:=
 match x,a with
 |.d (.str s),.num n r=>(match Nat.beq i.kin 2 with|true=>Bh g (BC s.size n)∧K (.d (.int .i64 n)) r|false=>False)
 |.d (.list es),.num n r=>(match Nat.beq i.kin 4 with|true=>Bh g (BC es.length n)∧K (.d (.int .i64 n)) r|false=>False)
 |.e0,.num n r=>(match Nat.beq i.kin 4 with|true=>Bh g (BC 0 n)∧K (.d (.int .i64 n)) r|false=>False)
 |.ref k q _ m,.num n r=>(match Nat.beq i.kin 4,BU H k q with|true,true=>Bh g (BC m n)∧K (.d (.int .i64 n)) r|_,_=>False)
 |_,_=>False
def ig(H:Hp):AV→Option (Bool×List (List D))
 |.d (.map q a)=>some (q,a)
 |.mp k g=>match BU H k g,(H k).e with
  |true,.m q a=>some (q,a)
  |_,_=>none
 |_=>none
def bqB:Bool→Bool→Bool
 |true,true=>true
 |false,false=>true
 |_,_=>false
theorem ZQT{a b:Bool}(h:bqB a b=true):a=b:=by cases a<;>cases b<;>first|rfl|cases h
def Qq(a:List (List D))(s:ByteArray)(z vs:List D)(ok:Bool):Prop:=(FV s a).isSome=ok∧(FV s a).getD z=vs
def VU(i:TI)(H:Hp)(x y:AV)(b:Bool)(g:Option Bool)(a:AT)(K:AV→AT→Prop):Prop:=
 match i.mp,ig H x,y,a with
 |some (q,z),some (d,c),.d (.str s),.av (.d (.bool ok)) (.ds vs r)=>(match bqB q d with
  |true=>Bh g (Qq c s z vs ok)∧K (Ny b q vs ok) r
  |false=>False)
 |_,_,_,_=>False
def iR(i:TI)(f:Nat):Option (Nat×Nat):=match Bk i.fld f with|some (o,n,_)=>some (o,n)|none=>none
def Qv(i:TI)(cells:List AV):List (Nat×AV)→Option (List AV)
 |[]=>some cells
 |(f,v)::a=>match iR i f,CW v with
  |some (off,size),some vs=>match Nat.beq vs.length size,Nat.ble (off+vs.length) cells.length with
   |true,true=>Qv i (cells.take off++vs++cells.drop (off+vs.length)) a
   |_,_=>none
  |_,_=>none
def Uw(i:TI)(parts:List (Nat×AV))(a:AT)(K:AV→AT→Prop):Prop:=
 match i.str,i.zer with
 |true,some z=>(match Qv i z parts with|some cs=>K (.agg cs) a|none=>False)
 |_,_=>False
def Jl:AV→Bool
 |.fn (.yield _) _ _=>false
 |_=>true
def tV(T:Nat→Option TI)(H:Hp)(op:Op)(ρ:Operand→AV)(g:Option Bool)(a:AT)(K:AV→AT→Prop):Prop:=
 match op with
 |.move x=>K (ρ x) a
 |.assign x=>K (ρ x) a
 |.pick c x y=>match ρ c with|.d (.bool t)=>K (Zq t (ρ x) (ρ y)) a|_=>False
 |.load t x=>match T t with|some i=>M7 i H (ρ x) g a K|none=>False
 |.fieldAddr t x f=>match T t with|some i=>Tn i H f (ρ x) a K|none=>False
 |.field t x f=>match T t with|some i=>UW i f (ρ x) a K|none=>False
 |.indexAddr t x j=>match T t with|some i=>To i H (ρ x) (ρ j) g a K|none=>False
 |.index t x j=>match T t with|some i=>UJ i (ρ x) (ρ j) g a K|none=>False
 |.extract x j=>match ρ x with|.tup vs=>(match Bk vs j with|some y=>K y a|none=>False)|_=>False
 |.binOp o t x y _=>match T t with|some i=>Ss i H o (JA y) (ρ x) (ρ y) g a K|none=>False
 |.unOp o _ x=>WK o (ρ x) g a K
 |.nilCheck x=>match ρ x with|.ptr k q off=>(match BU H k q with|true=>K (.ptr k q off) a|false=>False)|.iptr cs off=>K (.iptr cs off) a|_=>False
 |.convert s d x=>match T s,T d with|some i,some j=>VQ i j (ρ x) g a K|_,_=>False
 |.makeInterface t x=>match T t with|some i=>(match i.str||i.elm.isSome,ρ x with|true,.agg xs=>(match L5 xs with|some ds=>K (.ifc t ds true) a|none=>False)|true,.d x=>K (.ifc t [x] false) a|_,_=>False)|none=>False
 |.typeAssert x _ t ok=>match T t with|some i=>(match i.str||i.elm.isSome,ρ x with|true,.ifc u ds q=>(match Nat.beq u t,upk q ds with|true,some v=>K (cond ok (.tup [v,.d (.bool true)]) v) a|_,_=>False)|_,_=>False)|none=>False
 |.makeFunc fn first b=>match fn with|.yield _=>False|fn=>K (.fn fn (first.toList.map ρ) (b.toList.map ρ)) a
 |.slice t x lo hi h=>match T t with|some i=>UD i H (ρ x) (lo.map ρ) (hi.map ρ) h.isSome g a K|none=>False
 |.lookup t x y e=>match T t with|some i=>VU i H (ρ x) (ρ y) e g a K|none=>False
 |.build t parts=>match T t,parts.toList.all (fun p=>Jl (ρ p.2))with|some i,true=>Uw i (parts.toList.map fun p=>(p.1,ρ p.2)) a K|_,_=>False
 |.call c=>match c.callee,c.args.toList,c.argTypes.toList with
  |.builtin .len,[x],[t]=>match T t with|some i=>SM i H (ρ x) g a K|none=>False
  |.builtin .min,[x,y],_=>Em false (ρ x) (ρ y) (fun v=>K v a)
  |.builtin .max,[x,y],_=>Em true (ρ x) (ρ y) (fun v=>K v a)
  |.builtin .max,[x,y,z],_=>Ho true (ρ x) (ρ y) (ρ z) (fun v=>K v a)
  |_,_,_=>False
 |_=>False
end Go.Eng
