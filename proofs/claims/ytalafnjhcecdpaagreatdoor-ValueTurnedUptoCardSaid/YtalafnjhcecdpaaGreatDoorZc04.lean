import Derived.Test.YtalafnjhcecdpaaGreatDoorZc03
import Derived.Test.YtalafnjhcecdpaaGreatDoorZc01
import Derived.Maps.RangeRun
import Derived.Test.YtalafnjhcecdpaaGreatDoorZc00
namespace Go.Eng
open Go
set_option linter.all false
inductive Waits (ops:Array Oper):Nat→Nat→Prop
 |one {j i:Nat} {oj:Oper} {e:Edge} (hj:ops[j]?=some oj) (he:e∈oj.after) (hb:Region.binds .any e=true) (hi:e.on=i):Waits ops j i
 |more {j m i:Nat} {oj:Oper} {e:Edge} (hj:ops[j]?=some oj) (he:e∈oj.after) (hb:Region.binds .any e=true) (hm:e.on=m) (h:Waits ops m i):Waits ops j i
def O8(L:List Oper)(i:Nat):Nat→Nat→Bool
 |0,_=>false
 |a+1,j=>match Bg L j with|some b=>b.after.toList.any fun e=>Region.binds .any e&&(Nat.beq e.on i||O8 L i a e.on)|none=>false
theorem Zy{L:List Oper}{i:Nat}:∀(a j:Nat),O8 L i a j=true→Waits L.toArray j i
 |0,j,h=>by cases h
 |a+1,j,h=>by
  unfold O8 at h
  rw[Cb]at h
  split at h
  ·rename_i f d
   obtain⟨e,he,h⟩:=YL.1 h
   rw[Yc,YF]at h
   have c:L.toArray[j]?=some f:=by simpa using d
   rcases h.2 with b|b
   ·exact .one c (by simpa using he) h.1 (Yb b)
   ·exact .more c (by simpa using he) h.1 rfl (Zy a _ b)
  ·cases h
def DC(ops:Array Oper)(listed:Array Bool):Prop:=∀(m:Nat) (a:Oper),ops[m]?=some a→listed.getD m false=true→∀e∈a.after,Region.binds .any e=true→listed.getD e.on false=true
theorem DC.waits{ops:Array Oper}{listed:Array Bool}(h:DC ops listed){j i:Nat}(c:Waits ops j i):listed.getD j false=true→listed.getD i false=true:=by
 induction c with
 |one b he a hi=>intro hl;rw[←hi];exact h _ _ b hl _ he a
 |more b he a hm _ d=>intro hl;exact d (by rw[←hm];exact h _ _ b hl _ he a)
theorem sd{listed:Array Bool}{i:Nat}(h:listed.getD i true=false):listed.getD i false=false:=by
 grind
theorem DC.ready{ops:Array Oper}{listed:Array Bool}(h:DC ops listed){j:Nat}(f:j∈Region.ready .any ops listed):DC ops (listed.setIfInBounds j true):=by
 obtain⟨i,k,c,a⟩:=mem_ready.1 f
 intro m g hm hl e he d
 by_cases b:j=m
 ·subst b
  rw[c]at hm
  cases hm
  exact getD_set_true (a e he d)
 ·rw[getD_set_ne false b]at hl
  exact getD_set_true (h m g hm hl e he d)
theorem DC.nowait{ops:Array Oper}{listed:Array Bool}(h:DC ops listed){j i:Nat}(g:j∈Region.ready .any ops listed)(hi:listed.getD i true=false):¬Waits ops j i:=fun k=>by
 obtain⟨l,m,c,b⟩:=mem_ready.1 g
 have hi:=sd hi
 cases k with
 |one a he e f=>
  grind
 |more a he e hm d=>
  rw[c]at a
  cases a
  have:=h.waits d (by rw[←hm];exact b _ he e)
  grind
def BT(o:Oper):Bool:=match o.op,o.dst,o.guard with
 |.store _ _ _,none,none=>true
 |_,_,_=>false
def Hc(o:Oper):Bool:=match o.op with
 |.move _=>true
 |.binOp b _ _ _ _=>(match b with|.add=>true|.sub=>true|_=>false)
 |.indexAddr _ _ _=>true
 |.fieldAddr _ _ _=>true
 |.nilCheck _=>true
 |_=>false
def WJ(H H':Hp):Prop:=∀k,(H' k).g=(H k).g∧(H' k).live=(H k).live∧(H' k).sz=(H k).sz
def N0(L:List Oper)(p:Oper)(k:Nat):Bool:=B4 p k||p.after.toList.any fun e=>Region.binds .any e&&(match L[e.on]? with|some a=>B4 a k|none=>false)
def QH(L:List Oper)(o:Oper)(k:Nat):Nat→List Oper→Bool
 |_,[]=>true
 |j,p::r=>(match BT o with|true=>B4 p k|false=>true)&&(match BT p with|true=>Hc o||N0 L p k|false=>true)&&!B4 o j&&QH L o k (j+1) r
def KV(L:List Oper):Nat→List Oper→Bool
 |_,[]=>true
 |k,o::r=>QH L o k (k+1) r&&KV L (k+1) r
theorem ou{L:List Oper}{o:Oper}{k:Nat}:∀{l:List Oper} {j i:Nat} {p:Oper},QH L o k j l=true→l[i]?=some p→(BT o=true→B4 p k=true)∧(BT p=true→Hc o=true∨N0 L p k=true)∧B4 o (j+i)=false
 |[],j,i,p,_,h=>by simp at h
 |q::r,j,i,p,a,h=>by
  simp only[QH,Yc,YU]at a
  cases i with
  |zero=>
   grind
  |succ i=>
   have:=ou a.2 (i:=i) (by simpa using h)
   grind
theorem b6{L:List Oper}:∀{l:List Oper} {k i j:Nat} {o p:Oper},KV L k l=true→i<j→l[i]?=some o→l[j]?=some p→(BT o=true→B4 p (k+i)=true)∧(BT p=true→Hc o=true∨N0 L p (k+i)=true)∧B4 o (k+j)=false
 |[],k,i,j,o,p,_,_,h,_=>by simp at h
 |q::r,k,i,j,o,p,b,c,h,a=>by
  simp only[KV,Yc]at b
  cases j with
  |zero=>omega
  |succ j=>
   have a:r[j]?=some p:=by simpa using a
   cases i with
   |zero=>
    simp only[FO,Yh]at h
    subst h
    have:=ou b.1 a
    grind
   |succ i=>
    have:=b6 b.2 (Nat.lt_of_succ_lt_succ c) (by simpa using h) a
    grind
theorem ai{p:Oper}{k:Nat}(h:B4 p k=true)(b:∀e∈p.after,Region.binds .any e=true→e.on≠k):False:=by
 unfold B4 at h
 rw[YL]at h
 obtain⟨e,he,a⟩:=h
 simp only[Yc]at a
 exact b e (by simpa using he) a.1 (Yb a.2)
section
variable {P:Program} {l n:Nat} {B:Base} {H H':Hp} {ops:Array Oper} {ρ:Operand→AV}
theorem gb{o:Oper}{v:AV}(h:Hc o=true)(hs:WJ H H')(a:qV P l H o ρ v):qV P l H' o ρ v:=by
 obtain⟨e,op,type,pos,after,guard⟩:=o
 cases op<;>simp only[Hc]at h<;>first|(cases h;done)|skip
 case move=>exact a
 case nilCheck=>
  simp only[qV,A2]at a⊢
  unfold I9 at a⊢
  split at a
  ·rename_i k g off _
   obtain⟨b,c,d⟩:=hs k
   grind
  ·exact a
  ·grind
 case fieldAddr=>
  simp only[qV,A2]at a⊢
  unfold EJ at a⊢
  split at a
  ·exact a
  ·rename_i k g off o n _ _
   obtain⟨b,c,d⟩:=hs k
   grind
  ·grind
 case indexAddr=>
  simp only[qV,A2]at a⊢
  unfold Ea at a⊢
  split at a
  ·exact a
  ·rename_i k g off len _ n _ sz _ _ _
   obtain⟨b,c,d⟩:=hs k
   grind
  ·grind
 case binOp=>
  simp only[qV,A2]at a⊢
  unfold CA at a⊢
  split at a
  ·exact a
  ·exact a
  ·grind
  ·exact a
  ·grind
  ·grind
theorem vm{o:Oper}{s:Nat→AV}{v:AV}(h:Hc o=true)(hs:WJ H H')(a:YA P l H ops o s v):YA P l H' ops o s v:=by
 unfold YA at a⊢
 split at a
 ·exact gb h hs a
 ·split at a
  ·exact⟨fun e=>gb h hs (a.1 e),a.2⟩
  grind
def Gw(P:Program)(l:Nat)(o:Oper)(s:Nat→AV)(H H':Hp):Prop:=match o.op with
 |.store t a x=>match ev s a,CP (ev s x)with
  |.ptr k g off,some vs=>g=(H k).g∧(H k).live=true∧vs.length=P.cellsOf t∧vs≠[]∧off+vs.length≤(H k).cells.length∧(k.1=l+1∨vs.all (AV.low k.1)=true)∧
    H'=updH H k {H k with cells:=(H k).cells.take off++vs++(H k).cells.drop (off+vs.length) }
  |_,_=>False
 |_=>False
theorem rL{o:Oper}{s:Nat→AV}(h:Gw P l o s H H'):WJ H H':=by
 unfold Gw at h
 split at h
 ·split at h
  ·obtain⟨_,_,_,_,_,_,rfl⟩:=h
   intro k
   unfold updH
   grind
  grind
 grind
theorem sM{o:Oper}{s:Nat→AV}{K:St→Prop}(hs:BT o=true)(h:Bs P l n o K ⟨s,H⟩):∃H',Gw P l o s H H'∧K ⟨s,H'⟩:=by
 obtain⟨a,op,type,pos,after,guard⟩:=o
 cases op<;>simp only[BT]at hs<;>first|(cases hs;done)|skip
 cases a with
 |some d=>cases hs
 |none=>
  simp only[Bs]at h
  simp only[Gw]
  grind
theorem tR{o:Oper}{s:Nat→AV}{K:St→Prop}(hs:BT o=true)(h:Gw P l o s H H')(b:K ⟨s,H'⟩):Bs P l n o K ⟨s,H⟩:=by
 obtain⟨a,op,type,pos,after,guard⟩:=o
 cases op<;>simp only[BT]at hs<;>first|(cases hs;done)|skip
 cases a with
 |some d=>cases hs
 |none=>
  simp only[Gw]at h
  simp only[Bs]
  grind
theorem ZzK{o:Oper}{s:Nat→AV}{d:Nat}{u:AV}(g:d∉o.looksAt ops)(h:Gw P l o (upd s d u) H H'):Gw P l o s H H':=by
 have b:∀x∈o.op.operands,ev (upd s d u) x=ev s x:=fun x hx=>by
  cases x with
  |tmp t=>
   have c:t≠d:=fun e=>g (by
    subst e
    exact Ho _ (List.mem_filterMap.2 ⟨.tmp t,by simpa using hx,rfl⟩))
   simp[ev,upd,c]
  |_=>rfl
 unfold Gw at h⊢
 split at h
 ·rename_i t a x f
  rw[b a (by rw[f];simp[Op.operands]),b x (by rw[f];simp[Op.operands])]at h
  exact h
 grind
variable {fin:Bool} {X:St→Prop}
def E0(P:Program)(l n:Nat)(ops:Array Oper)(fin:Bool)(X:St→Prop)(i:Nat)(K:St→Prop)(σ:St):Prop:=
 match ops[i]? with
 |none=>K σ
 |some o=>(CQ o=true∧∃d v,o.dst=some d∧d<n∧YA P l σ.H ops o σ.s v∧K ⟨upd σ.s d v,σ.H⟩)∨(BT o=true∧∃H',Gw P l o σ.s σ.H H'∧K ⟨σ.s,H'⟩)∨(fin=true∧i+1=ops.size∧X σ)
def JL(P:Program)(l n:Nat)(ops:Array Oper)(fin:Bool)(X:St→Prop)(Q:St→Prop):Nat→Array Bool→St→Prop
 |0,listed,σ=>Region.ready .any ops listed=[]∧Q σ
 |fuel+1,listed,σ=>(Region.ready .any ops listed=[]→Q σ)∧∀i∈Region.ready .any ops listed,E0 P l n ops fin X i (JL P l n ops fin X Q fuel (listed.setIfInBounds i true)) σ
theorem ZuS{i:Nat}{K g:St→Prop}{σ:St}(h:∀s,K s→g s)(b:E0 P l n ops fin X i K σ):E0 P l n ops fin X i g σ:=by
 unfold E0 at*
 split
 ·rename_i e;rw[e]at b;exact h _ b
 ·rename_i o e
  rw[e]at b
  rcases b with⟨a,d,v,c,f,j,k⟩|⟨a,H',c,f⟩|a
  ·exact .inl ⟨a,d,v,c,f,j,h _ k⟩
  ·exact .inr (.inl ⟨a,H',c,h _ f⟩)
  ·exact .inr (.inr a)
theorem Zzt{i j:Nat}{c t:Oper}{d:Nat}{v:AV}(A:ops[j]?=some t)(a:c.dst=some d)(m:c.apart ops t=true)(p:BT t=true→Hc c=true)(r:fin=true→j+1≠ops.size){K:St→Prop}{s:Nat→AV}
  (hy:YA P l H ops c s v) (h:E0 P l n ops fin X j K ⟨upd s d v,H⟩):E0 P l n ops fin X j (fun g=>YA P l g.H ops c g.s v∧K ⟨upd g.s d v,g.H⟩) ⟨s,H⟩:=by
 obtain⟨w,x,y⟩:=Oper.apart_spec m
 unfold E0 at*
 simp only[A]at*
 rcases h with⟨b,e,u,he,o,f,k⟩|⟨b,H',f,k⟩|⟨b,z,_⟩
 ·refine .inl ⟨b,e,u,he,o,o8 (w d a) f,ZzA (y e he) hy,?_⟩
  have q:d≠e:=fun e'=>x d a (e'▸he)
  rw[Zt9 (Ne.symm q)]
  exact k
 ·exact .inr (.inl ⟨b,H',ZzK (w d a) f,vm (p b) (rL f) hy,k⟩)
 ·exact absurd z (r b)
theorem yK{Q:St→Prop}{i:Nat}{o:Oper}{d:Nat}{v:AV}(hi:ops[i]?=some o)(hq:CQ o=true)(D:o.dst=some d)(L:d<n):
  ∀(fuel:Nat) (listed:Array Bool) (s:Nat→AV) (H:Hp),
   (∀j u,ops[j]?=some u→j≠i→listed.getD j true=false→(∀e∈u.after,Region.binds .any e=true→e.on≠i∧∀a,ops[e.on]?=some a→B4 a i=false)→¬Waits ops j i→o.apart ops u=true∧(BT u=true→Hc o=true)∧(fin=true→j+1≠ops.size))→DC ops listed→
   (∀m a,ops[m]?=some a→B4 a i=true→listed.getD m true=false)→i∈Region.ready .any ops listed→YA P l H ops o s v→
   JL P l n ops fin X Q fuel (listed.setIfInBounds i true) ⟨upd s d v,H⟩→JL P l n ops fin X Q (fuel+1) listed ⟨s,H⟩:=by
 have w:∀{K:St→Prop} {s:Nat→AV} {H:Hp},YA P l H ops o s v→K ⟨upd s d v,H⟩→E0 P l n ops fin X i K ⟨s,H⟩:=fun hy hK=>by
  unfold E0;simp only[hi];exact .inl ⟨hq,d,v,D,L,hy,hK⟩
 intro fuel
 induction fuel with
 |zero=>
  intro listed s H _ _ T t hy B
  refine⟨fun h=>(by rw[h]at t;cases t),fun j A=>?_⟩
  by_cases b:j=i
  ·subst b;exact w hy B
  ·have:=ready_mono A b
   rw[B.1]at this
   cases this
 |succ fuel ih=>
  intro listed s H f W T t hy B
  refine⟨fun h=>(by rw[h]at t;cases t),fun j A=>?_⟩
  by_cases b:j=i
  ·subst b;exact w hy B
  ·have c:=B.2 j (ready_mono A b)
   obtain⟨q,u,z,p⟩:=mem_ready.1 A
   have r:∀e∈u.after,Region.binds .any e=true→e.on≠i:=fun e he I heq=>by
    have c:=p e he I
    have C:=(mem_ready.1 t).1
    rw[heq]at c
    rcases YD i listed.size with x|x
    ·simp[x]at C c;rw[C]at c;cases c
    ·simp[Y9 x]at c
   have y:∀e∈u.after,Region.binds .any e=true→e.on≠i∧∀a,ops[e.on]?=some a→B4 a i=false:=fun e he I=>⟨r e he I,fun a S=>by
    cases J:B4 a i with
    |false=>rfl
    |true=>
     have c:=p e he I
     have C:=T _ a S J
     rcases YD e.on listed.size with x|x
     ·simp[x]at C c;rw[C]at c;cases c
     ·simp[Y9 x]at c⟩
   have M:=f j u z b q y (W.nowait A (mem_ready.1 t).1)
   have Z:=Zzt (i:=i) z D M.1 M.2.1 M.2.2 hy c
   have g:∀k ok,ops[k]?=some ok→k≠i→(listed.setIfInBounds j true).getD k true=false→
     (∀e∈ok.after,Region.binds .any e=true→e.on≠i∧∀a,ops[e.on]?=some a→B4 a i=false)→¬Waits ops k i→o.apart ops ok=true∧(BT ok=true→Hc o=true)∧(fin=true→k+1≠ops.size):=fun k ok hk N G O R=>by
    refine f k ok hk N ?_ O R
    by_cases E:j=k
    ·subst E;exact q
    ·rw[getD_set_ne true E]at G;exact G
   have U:∀m a,ops[m]?=some a→B4 a i=true→(listed.setIfInBounds j true).getD m true=false:=fun m a hm J=>by
    by_cases F:j=m
    ·subst F
     rw[z]at hm
     cases hm
     exact(ai J r).elim
    ·rw[getD_set_ne true F];exact T m a hm J
   refine ZuS (fun Y V=>ih (listed.setIfInBounds j true) Y.s Y.H g (W.ready A) U (ready_mono t (Ne.symm b)) V.1 ?_) Z
   rw[ee _ _ b]
   exact V.2
theorem ac{K K0:St→Prop}{m:Nat}(p:∀k (listed:Array Bool) (s:Nat→AV) (H:Hp),k+m=ops.size→(∀j,listed.getD j true=false→k≤j)→Region.lexFrom .any ops m k listed=true→K0 ⟨s,H⟩→JL P l n ops fin X K m listed ⟨s,H⟩)(w:fin=true→∀i,i+1<ops.size→Waits ops (ops.size-1) i)(z:∀i j N u,i<j→ops[i]?=some N→ops[j]?=some u→(BT N=true→B4 u i=true)∧(BT u=true→Hc N=true∨N0 ops.toList u i=true)∧B4 N j=false):
  ∀(rest:List Oper) (k:Nat) (listed:Array Bool) (s:Nat→AV) (H:Hp),rest.all (fun o=>CQ o||BT o)=true→(∀j,listed.getD j true=false→k≤j)→(∀j,k≤j→j<ops.size→listed.getD j true=false)→
  k+rest.length+m=ops.size→DC ops listed→(∀j,j<rest.length→rest[j]?=ops[k+j]?)→Region.lexFrom .any ops (rest.length+m) k listed=true→DG P l n (ops.toList.map (·.dst)) rest K0 ⟨s,H⟩→JL P l n ops fin X K (rest.length+m) listed ⟨s,H⟩
 |[],k,listed,s,H,_,F,_,r,_,_,C,h=>by
  simp only[Iy,YP,FN]at C r⊢
  exact p k listed s H r F C h
 |o::rest,k,listed,s,H,Z,F,hk2,r,hD,hl,C,h=>by
  have M:ops[k]?=some o:=by simpa using(hl 0 (by simp)).symm
  rw[D7,Nat.add_right_comm]at C⊢
  simp only[Region.lexFrom,Yc]at C
  obtain⟨⟨D,hf⟩,Q⟩:=C
  have D:k∈Region.ready .any ops listed:=by simpa using D
  simp only[Iv,Yc,YF]at Z
  have U:∀j,(listed.setIfInBounds k true).getD j true=false→k+1≤j:=fun j E=>by
   by_cases g:k=j
   ·subst g
    exfalso
    rcases YD k listed.size with L|L
    ·simp[L]at E
    grind
   ·rw[getD_set_ne true g]at E
    grind
  have G:∀j,k+1≤j→j<ops.size→(listed.setIfInBounds k true).getD j true=false:=fun j h1 h2=>by
   rw[getD_set_ne true (by omega)]
   grind
  have hu:∀m om,ops[m]?=some om→B4 om k=true→listed.getD m true=false:=fun m om hm ho=>by
   grind
  have W:∀j,j<rest.length→rest[j]?=ops[k+1+j]?:=fun j E=>by have:=hl (j+1) (by simp;omega);simpa[YI,Np 1 j]using this
  have next:∀s' H',DG P l n (ops.toList.map (·.dst)) rest K0 ⟨s',H'⟩→JL P l n ops fin X K (rest.length+m) (listed.setIfInBounds k true) ⟨s',H'⟩:=fun s' H' L=>
   ac p w z rest (k+1) _ s' H' (by simpa using Z.2) U G (by simp only[D7]at r;omega) (hD.ready D) W Q L
  by_cases a:BT o=true
  ·
   have y:o.guard=none:=by
    cases y:o.guard with
    |none=>rfl
    |some _=>obtain⟨O,op,type,pos,after,guard⟩:=o;simp only at y;subst y;cases op<;>cases O<;>simp[BT]at a
   have J:Bs P l n o (DG P l n (ops.toList.map (·.dst)) rest K0) ⟨s,H⟩:=by
    unfold DG at h
    simp only[y]at h
    unfold FJ at h
    split at h
    ·rename_i R;simp[BT,R]at a
    ·rename_i c R;simp[BT,R]at a
    ·exact h
   obtain⟨H',hS,hK⟩:=sM a J
   refine⟨fun h=>(by rw[h]at D;cases D),fun j E=>?_⟩
   by_cases g:j=k
   ·subst g
    unfold E0
    grind
   ·exfalso
    obtain⟨f,u,q,hall⟩:=mem_ready.1 E
    have V:=F j f
    have he:=(z k j o u (by omega) M q).1 a
    refine ai he fun e he x heq=>?_
    grind
  ·have B:CQ o=true:=by rcases Z.1 with h|h;exact h;exact absurd h a
   have hst:∃d v,o.dst=some d∧d<n∧YA P l H ops o s v∧DG P l n (ops.toList.map (·.dst)) rest K0 ⟨upd s d v,H⟩:=by
    unfold DG at h
    unfold YA
    cases y:o.guard with
    |none=>simp only[y]at h;exact nq B h
    |some gw=>
     obtain⟨i,b⟩:=gw
     simp only[y]at h⊢
     split at h
     ·rename_i t ht
      cases t with
      |true=>
       obtain⟨d,v,h1,h2,h3,h4⟩:=nq B (h.1 rfl)
       grind
      |false=>
       grind
     grind
   obtain⟨d,v,hd,S,hy,hK⟩:=hst
   refine yK M B hd S (rest.length+m) listed s H (fun j u q g f I Y=>⟨Region.free_spec M hf j u q g f (fun e he x=>(I e he x).1),fun hsj=>?_,fun T A=>Y (by have:=w T k (by have:=F j f;omega);rwa [←A,Nat.add_sub_cancel]at this)⟩) hD hu D hy (next _ _ hK)
   have V:=F j f
   rcases(z k j o u (by omega) M q).2.1 hsj with h|h
   ·exact h
   ·exfalso
    unfold N0 at h
    rw[YF]at h
    rcases h with h|h
    ·exact ai h fun e he x=>(I e he x).1
    ·obtain⟨e,he,x⟩:=YL.1 h
     rw[Yc]at x
     obtain⟨D2,Aq⟩:=x
     split at Aq
     ·grind
     grind
theorem x6{i:Nat}{σ:St}{a:Act}{w:World}{K:St→Prop}{q:Act→World→Prop}{f:Exit→Act→World→Prop}(r:R l n B σ a w)
  (h:∀σ a w,R l n B σ a w→K σ→q a w) (L:fin=true→i+1=ops.size→X σ→wpOp P ops f i q a w) (A:E0 P l n ops fin X i K σ):wpOp P ops f i q a w:=by
 have z:=L
 obtain⟨s,H⟩:=σ
 unfold E0 at A
 unfold wpOp
 split
 ·grind
 ·rename_i o G
  simp only[G]at A
  rcases A with⟨C,d,v,F,g,hy,E⟩|⟨k,H',y,E⟩|⟨T,U,V⟩
  rotate_left 2
  ·have:=z T U V
   unfold wpOp at this
   simpa only[G]using this
  ·have go:qV P l H o (ev s) v→o.wp P a w q f:=fun Q=>by
    have:=sQ (B:=B) C F g Q a w r f
    refine Oper.wp_mono (fun I w' ⟨D,e,x⟩=>?_) this
    grind
   unfold YA at hy
   cases c:o.guard with
   |none=>
    simp only[c]at hy
    rw[Yk (by simp[Region.wanted,c])]
    grind
   |some J=>
    obtain⟨j,b⟩:=J
    simp only[c]at hy
    split at hy
    ·rename_i t O
     have p:(yielded ops a.tmps j==some b)=t:=by
      obtain⟨m,S,W,Y,M,y,N⟩:=r.un
      exact ZJ y O
     cases t with
     |true=>
      rw[Yk (by simp only[Region.wanted,c];exact p)]
      grind
     |false=>
      rw[Yi (by simp only[Region.wanted,c,p];decide)]
      have:=hy.2 rfl
      subst this
      rw[F]
      exact h _ _ _ (R.undef r g) E
    grind
  ·have c:o.guard=none:=by
    cases c:o.guard with
    |none=>rfl
    |some _=>obtain⟨u,op,type,pos,after,guard⟩:=o;simp only at c;subst c;cases op<;>cases u<;>simp[BT]at k
   rw[Yk (by simp[Region.wanted,c])]
   refine .inl ?_
   have:=JW (B:=B) (tR (n:=n) (K:=fun D=>D=⟨s,H'⟩) k y rfl) a w r f
   refine Oper.wp_mono (fun I w' ⟨D,e,x⟩=>?_) this
   grind
theorem lW{b:Exit→Act→World→Prop}{listed:Array Bool}(h:Region.ready .any ops listed=[]){a:Act}{w:World}(c:b .normal a w):∀fuel,wpAny P .any ops b fuel listed a w
 |0=>⟨h,c⟩
 |_+1=>⟨fun _=>c,fun i hi=>by rw[h]at hi;cases hi⟩
theorem Zb{Q:St→Prop}{m:Exit→Act→World→Prop}(q:∀σ a w,R l n B σ a w→Q σ→m .normal a w)(b:fin=true→∀i,i+1<ops.size→Waits ops (ops.size-1) i)(y:fin=true→∀σ a w,R l n B σ a w→X σ→∀o,ops[ops.size-1]?=some o→wpList P ops m [o] a w):
  ∀(fuel:Nat) (listed:Array Bool) (σ:St) (a:Act) (w:World),DC ops listed→R l n B σ a w→JL P l n ops fin X Q fuel listed σ→wpAny P .any ops m fuel listed a w
 |0,_,_,_,_,_,d,h=>⟨h.1,q _ _ _ d h.2⟩
 |fuel+1,listed,σ,a,w,x,d,h=>⟨fun u=>q _ _ _ d (h.1 u),fun i hi=>x6 d (fun s' t w' r D=>Zb q b y fuel _ s' t w' (x.ready hi) r D) (fun C J H=>by
  obtain⟨u,o,A,z⟩:=mem_ready.1 hi
  have e:ops.size-1=i:=by omega
  have hw:=y C σ a w d H o (by rw[e];exact A)
  have g:Region.ready .any ops (listed.setIfInBounds i true)=[]:=by
   refine List.eq_nil_iff_forall_not_mem.2 fun j E=>?_
   obtain⟨k,I,s,_⟩:=mem_ready.1 E
   have F:j<ops.size:=(YY.1 s).1
   by_cases f:i=j
   ·subst f
    rcases YD i listed.size with p|p
    ·simp[p]at k
    ·simp[Y9 p]at k
   ·rw[getD_set_ne true f]at k
    have v:=b C j (by omega)
    rw[e]at v
    exact x.nowait hi k v
  unfold wpOp
  simp only[A]
  unfold wpList at hw
  split
  ·rename_i c
   rw[Yk c]at hw
   exact hw.imp (Oper.wp_mono fun t w' G=>lW g G _) id
  ·rename_i c
   rw[Yi c]at hw
   exact lW g hw _) (h.2 i hi)⟩
theorem DC.none(n:Nat):DC ops (Array.replicate n false):=fun m b _ h=>by
 rw[Yw]at h
 rcases YD m n with a|a
 ·simp[a]at h
 ·simp[Nat.not_lt.2 a]at h
theorem yM{id:Nat}{ops:List Oper}{σ:St}{Q:Exit→St→Prop}(hm:P.follows .mixedOrders=true)(c:Region.lexB .any ops.toArray=true)(C:ops.all (fun o=>CQ o||BT o)=true)(hs:KV ops 0 ops=true)
  (h:DG P l n (ops.map (·.dst)) ops (Q .normal) σ):BB P l n B (.region id ops.toArray true) Q σ:=by
 intro a w x
 obtain⟨s,H⟩:=σ
 simp only[Region.lexB,Yc]at c
 have u:=ac (P:=P) (l:=l) (n:=n) (ops:=ops.toArray) (K:=Q .normal) (K0:=Q .normal) (m:=0) (fin:=false) (X:=fun _=>False) (fun k listed s H _ _ c h=>⟨by simpa[Region.lexFrom]using c,h⟩) (fun e=>by cases e) (fun i j E F p hi z=>by
   have:=b6 hs p (by simpa using hi) (by simpa using z)
   simpa using this) ops 0 (Array.replicate ops.toArray.size false) s H C (fun _ _=>Cn _) (fun j _ h=>by simp at h;simp[h]) (by simp) (DC.none _) (by simp) (by simpa using c.2) (by simpa using h)
 have d:R l n B ⟨s,H⟩ a {w with drawn:=w.drawn+1 }:=by
  obtain⟨m,S,v,A,f,y,g⟩:=x.un
  obtain⟨r,t⟩:=v.drew (w':={w with drawn:=w.drawn+1 }) rfl rfl rfl rfl
  exact R.keep r A f y g t
 refine wp_region_any hm (Zb (Q:=Q .normal) (fin:=false) (X:=fun _=>False) (fun G D w' b q=>⟨_,q,b⟩) (fun e=>by cases e) (fun e=>by cases e) _ _ _ a _ (DC.none _) d (by simpa using u))
theorem zr{id:Nat}{L:List Oper}{o:Oper}{σ:St}{QQ:Exit→Act→World→Prop}{X:St→Prop}(hm:P.follows .mixedOrders=true)(c:Region.lexB .any (L++[o]).toArray=true)(J:L.all (fun o=>CQ o||BT o)=true)(hs:KV (L++[o]) 0 (L++[o])=true)
  (M:∀i,i<L.length→Waits (L++[o]).toArray L.length i) (h:DG P l n ((L++[o]).map (·.dst)) L X σ) (G:∀σ a w,R l n B σ a w→X σ→wpList P (L++[o]).toArray QQ [o] a w) {a:Act} {w:World} (g:R l n B σ a w):(Code.region id (L++[o]).toArray true).wp P QQ a w:=by
 obtain⟨s,H⟩:=σ
 simp only[Region.lexB,Yc]at c
 have b:true=true→∀i,i+1<(L++[o]).toArray.size→Waits (L++[o]).toArray ((L++[o]).toArray.size-1) i:=fun _ i hi=>by
  have:=M i (by simpa using hi)
  simpa using this
 have D:=ac (P:=P) (l:=l) (n:=n) (ops:=(L++[o]).toArray) (K:=fun _=>False) (K0:=X) (m:=1) (fin:=true) (X:=X) (fun k listed s H U hl c h=>by
   simp only[Region.lexFrom,Yc]at c
   have C:k∈Region.ready .any (L++[o]).toArray listed:=by simpa using c.1.1
   refine⟨fun f=>(by rw[f]at C;cases C),fun i hi=>?_⟩
   obtain⟨f,O,d,_⟩:=mem_ready.1 hi
   have y:=hl i f
   have z:i<(L++[o]).toArray.size:=(YY.1 d).1
   unfold E0
   simp only[d]
   refine .inr (.inr ?_)
   exact And.intro (by first|rfl|trivial) (And.intro (by omega) h)) b (fun i j O V t hi u=>by
   have:=b6 hs t (by simpa using hi) (by simpa using u)
   simpa using this) L 0 (Array.replicate (L++[o]).toArray.size false) s H J (fun _ _=>Cn _) (fun j _ h=>by simp at h;simp[h]) (by simp) (DC.none _) (fun j u=>by simp[Yr u]) (by simpa using c.2) (by simpa using h)
 have p:R l n B ⟨s,H⟩ a {w with drawn:=w.drawn+1 }:=by
  obtain⟨m,S,E,I,q,F,r⟩:=g.un
  obtain⟨y,z⟩:=E.drew (w':={w with drawn:=w.drawn+1 }) rfl rfl rfl rfl
  exact R.keep y I q F r z
 refine wp_region_any hm (Zb (Q:=fun _=>False) (fin:=true) (X:=X) (fun W T w' A x=>x.elim) b (fun _ σ a w g hx N v=>?_) _ _ _ a _ (DC.none _) p (by simpa using D))
 have e:N=o:=by simpa using v.symm
 subst e
 exact G σ a w g hx
end
end Go.Eng
namespace Go.Eng
set_option linter.all false
open Go Go.RowKit
section
variable {P:Program} {T:Nat→Option TI} {r:Ren} {H H':Hp} {g:Option Bool} {a:AT} {K:AV→AT→Prop}
def KR(r:Ren)(K:AV→AT→Prop)(y:AV):Prop:=∃v a,y=ren r v∧K v a
theorem KR.mk{v:AV}{a:AT}(h:K v a):KR r K (ren r v):=⟨v,a,rfl,h⟩
theorem KR.mk'{v y:AV}{a:AT}(h:K v a)(e:y=ren r v):KR r K y:=⟨v,a,e,h⟩
theorem qA{t:TypeId}{i:TI}(hi:TIok P t i)(h:(i.str||i.elm.isSome)=true):Jt P t=true:=by
 rw[YF]at h
 unfold Jt
 rcases h with h|h
 ·have:=hi.str h
  unfold LJ at this
  split at this
  ·rename_i a _;rw[a]
  ·cases this
 ·obtain⟨e,he⟩:=Y6.1 h
  obtain⟨b,c⟩:=e
  have:=(EL (hi.elm _ he)).1
  rw[this]
theorem Zk{t:TypeId}{i:TI}(hi:TIok P t i)(y:Do r H H')(p:∀b,g=some b→b=true){x:AV}(h:MV i H x g a K):Ek P H' t (ren r x) (KR r K):=by
 unfold MV at h
 cases x<;>simp only at h<;>try exact h.elim
 case iptr cs off=>
  simp only[ren,Ek,hi.agg,hi.siz]
  split at h
  ·rename_i he
   rw[he]
   split at h
   ·rename_i c d f
    obtain⟨m,n⟩:=ak _ _ _ f
    have d:=Yg d
    rw[EC]at n
    exact⟨by omega,by omega,.mk' h (by rw[m,ren,HE])⟩
   grind
  ·rename_i he
   rw[he]
   rw[Cb]at h
   simp only
   split at h
   ·rename_i c o;simp only[o];exact .mk' h rfl
   grind
 case ptr k q off=>
  simp only[ren,Ek,hi.agg,hi.siz]
  split at h
  ·rename_i hl
   obtain⟨s,u,z,A,v⟩:=y.at hl
   refine⟨s,u,?_⟩
   rw[v]
   split at h
   ·split at h
    ·rename_i he
     rw[he]
     split at h
     ·rename_i c d f
      obtain⟨m,n⟩:=ak _ _ _ f
      have d:=Yg d
      rw[EC]at n
      exact⟨by omega,by rw[Cu];omega,.mk' h (by rw[ren,EG,Fk,m])⟩
     grind
    ·rename_i he
     rw[he]
     rw[Cb]at h
     split at h
     ·rename_i c o;simp only[HA,o,YZ];exact .mk' h rfl
     grind
   ·split at h
    ·rename_i he
     rw[he]
     split at h
     ·rename_i c B d f
      have d:=Yg d
      have f:=Yb f
      have j:DF _ _ _:=Bo p h.1
      unfold DF at j
      rw[f]at j
      have w:=congrArg List.length j
      rw[YQ,EC]at w
      exact⟨by omega,by rw[Cu];omega,.mk' h.2 (by rw[ren,EG,Fk,j])⟩
     grind
    ·rename_i he
     rw[he]
     split at h
     ·rename_i x
      have j:DF _ _ _:=Bo p h.1
      unfold DF at j
      have e:(H k).cells[off]?=some x:=by
       have:=congrArg (fun l=>l[0]?) j
       grind
      simp only[HA,e,YZ]
      exact .mk' h.2 rfl
     grind
   grind
  ·grind
theorem Mm{t:TypeId}{i:TI}(hi:TIok P t i){f:Nat}{x:Nat×Nat×Bool}(h:Bg i.fld f=some x):fld P t f=some (x.1,x.2.1)∧LP P t f=some x:=by
 rw[Cb]at h;exact hi.fld f x h
theorem xH{t:TypeId}{i:TI}(hi:TIok P t i)(j:Do r H H'){f:Nat}{x:AV}(h:R3 i H f x a K):EJ P H' t f (ren r x) (KR r K):=by
 unfold R3 at h
 split at h
 ·rename_i o n b k
  have e:=(Mm hi k).1
  split at h
  ·rename_i c
   have c:=Yg c
   unfold EJ
   rw[e]
   split at h
   ·simp only[ren];exact⟨by omega,.mk' h rfl⟩
   ·split at h
    ·rename_i hl
     obtain⟨d,g,_⟩:=j.at hl
     simp only[ren];exact⟨by omega,d,g,.mk' h rfl⟩
    grind
   grind
  grind
 grind
theorem ye{t:TypeId}{i:TI}(hi:TIok P t i){f:Nat}{x:AV}(h:S1 i f x a K):EN P t f (ren r x) (KR r K):=by
 unfold S1 at h
 rw[zC]
 split at h
 ·rename_i o n cs b
  rw[(Mm hi b).2]
  split at h
  ·rename_i d
   have d:=Yg d
   simp only[ren,N4]
   exact⟨by omega,.mk' h (by rw[ren,EG,Fk])⟩
  grind
 ·rename_i o n cs b
  rw[(Mm hi b).2]
  rw[Cb]at h
  split at h
  ·rename_i c e
   simp only[ren,N4,HA,e,YZ]
   exact .mk' h rfl
  grind
 grind
theorem xG{t:TypeId}{i:TI}(hi:TIok P t i)(w:Do r H H')(m:∀b,g=some b→b=true){x j:AV}(h:R4 i H x j g a K):Ea P H' t (ren r x) (ren r j) (KR r K):=by
 unfold R4 at h
 split at h
 ·rename_i e sz k n he
  have he:=hi.elm _ he
  split at h
  ·rename_i y e' q
   split at h
   ·rename_i c d
    have c:=Yb c
    have d:=Yg d
    obtain⟨f,l⟩:Je _ _ _:=Bo m h.1
    simp only[ren,Ea,he]
    refine⟨f,?_⟩
    rw[l]
    exact⟨c,by omega,.mk' h.2 rfl⟩
   grind
  ·rename_i k q off len o B
   split at h
   ·rename_i hl c d
    have c:=Yb c
    have d:=Yg d
    obtain⟨p,s,z,u,A⟩:=w.at hl
    obtain⟨f,l,v⟩:Lt _ _ _ _ _:=Bo m h.1
    simp only[ren,Ea,he]
    exact⟨f,l,p,s,by rw[u,c],by omega,.mk' h.2 (by rw[ren,v])⟩
   grind
  grind
 grind
theorem x8{t:TypeId}{i:TI}(hi:TIok P t i)(m:∀b,g=some b→b=true){x j:AV}(h:Ta i x j g a K):Fo P t (ren r x) (ren r j) (KR r K):=by
 unfold Ta at h
 split at h
 ·rename_i s k n b q
  split at h
  ·rename_i d
   have d:=Yb d
   obtain⟨e,c,f,l⟩:I8 _ _ _:=Bo m h.1
   simp only[ren,Fo]
   refine⟨by rw[hi.kin];exact d,e,?_⟩
   rw[f]
   exact .mk' h.2 (by rw[ren,l])
  grind
 grind
theorem zd{op:BinOp}{k:IntKind}{x y:Int}(c:∀b,g=some b→b=true)(h:Rn op k x y g a K):Gk op k x y (KR r K):=by
 unfold Rn at h
 cases op<;>simp only at h<;>try exact h.elim
 all_goals simp only[Gk]
 case eql=>exact .mk' h rfl
 case neq=>exact .mk' h rfl
 case lss=>exact .mk' h rfl
 case leq=>exact .mk' h rfl
 case gtr=>exact .mk' h rfl
 case geq=>exact .mk' h rfl
 case add|sub|mul=>
  split at h
  ·have e:Ci _ _ _:=Bo c h.1
   unfold Ci at e
   rw[e];exact .mk' h.2 rfl
  ·grind
 case and|or|xor=>
  split at h
  ·have e:Bz _ _:=Bo c h.1
   unfold Bz at e
   rw[e];exact .mk' h.2 rfl
  ·grind
 case quo=>
  split at h
  ·have e:Ci _ _ _:=Bo c h.2.1
   unfold Ci at e
   rw[e];exact⟨Bo c h.1,.mk' h.2.2 rfl⟩
  ·grind
 case rem=>
  split at h
  ·have e:Bz _ _:=Bo c h.2.1
   unfold Bz at e
   rw[e];exact⟨Bo c h.1,.mk' h.2.2 rfl⟩
  ·grind
 case shr=>
  split at h
  ·have e:Bz _ _:=Bo c h.2.1
   unfold Bz at e
   rw[e];exact⟨Bo c h.1,.mk' h.2.2 rfl⟩
  ·grind
 case shl=>
  split at h
  ·have e:Ci _ _ _:=Bo c h.2.1
   unfold Ci at e
   rw[e];exact⟨Bo c h.1,.mk' h.2.2 rfl⟩
  ·grind
theorem yY{op:BinOp}{x y:ByteArray}(c:∀b,g=some b→b=true)(h:Qz op x y g a K):Gl op x y (KR r K):=by
 unfold Qz at h
 cases op<;>simp only at h<;>try exact h.elim
 all_goals simp only[Gl]
 case add=>exact⟨Bo c h.1,.mk' h.2 rfl⟩
 all_goals exact .mk' h rfl
theorem l3{neg:Bool}{x:AV}(i:Do r H H')(h:Ln H neg x a K):DI H' neg (ren r x) (KR r K):=by
 unfold Ln at h
 split at h
 ·simp only[ren,DI];exact fun b=>.mk' (h b) rfl
 ·rename_i c
  cases c with
  |nil=>simp only[ren,DI];exact fun b=>.mk' (h b (fun e=>absurd rfl e)) rfl
  |cons e c=>simp only[ren,DI];exact .mk' (h neg (fun _=>rfl)) rfl
 ·rename_i k q off n
  split at h
  ·rename_i hl
   obtain⟨f,g,_⟩:=i.at hl
   simp only[ren,DI]
   exact⟨⟨f,g⟩,fun d=>.mk' (h neg (fun _=>rfl)) rfl,fun d b=>.mk' (h b (fun e=>absurd d e)) rfl⟩
  grind
 grind
theorem mg:∀(ks:List Nat) (xs ys:List AV) (b:Bool),El ks xs ys=some b→El ks (Al r xs) (Al r ys)=some b
 |[],[],[],b,h=>by simpa[Al]using h
 |k::ks,x::xs,y::ys,b,h=>by
  cases x<;>cases y<;>simp only[El]at h<;>try (cases h;done)
  rename_i x y
  simp only[Al,ren,El]
  split at h
  ·rename_i d e a c
   simp only[a,mg ks xs ys _ c]
   exact h
  ·cases h
 |[],[],_::_,b,h=>by simp[El]at h
 |[],_::_,_,b,h=>by simp[El]at h
 |_::_,[],_,b,h=>by simp[El]at h
 |_::_,x::_,[],b,h=>by cases x<;>simp[El]at h
theorem rQ{H:Hp}{op:BinOp}{t:TypeId}{a:Bool}{x:AV}{K:AV→Prop}:CA P H op t a x .e0 K=(a=true∧kin P t=4∧match op with|.eql=>DI H false x K|.neq=>DI H true x K|_=>False):=by
 unfold CA
 grind
theorem y4{t:TypeId}{i:TI}(hi:TIok P t i)(e:Do r H H')(f:∀b,g=some b→b=true){op:BinOp}{j:Bool}{x y:AV}(h:QR i H op j x y g a K):CA P H' op t j (ren r x) (ren r y) (KR r K):=by
 unfold QR at h
 split at h
 ·split at h
  ·rename_i c
   simp only[ren,CA]
   exact⟨s9 c,zd f h⟩
  grind
 ·simp only[ren,CA];exact yY f h
 ·split at h
  ·rename_i c
   simp only[ren,CA]
   refine⟨by rw[hi.kin];exact Yb c,?_⟩
   split at h
   ·exact .mk' h rfl
   ·exact .mk' h rfl
   grind
  grind
 ·rename_i xs ys
  split at h
  ·rename_i ks d
   split at h
   ·rename_i b l
    simp only[ren,CA,G0,hi.eqt _ d,mg _ _ _ _ l]
    split at h
    ·exact .mk' h rfl
    ·exact .mk' h rfl
    grind
   grind
  grind
 ·rw[show ren r .e0=.e0 from by simp[ren],rQ]
  split at h
  ·rename_i m k
   refine⟨rfl,by rw[hi.kin];exact Yb k,?_⟩
   split at h
   ·exact l3 e h
   ·exact l3 e h
   grind
  grind
 grind
theorem zO{op:UnOp}{x:AV}(c:∀b,g=some b→b=true)(h:UA op x g a K):Ey op (ren r x) (KR r K):=by
 unfold UA at h
 split at h
 ·simp only[ren,Ey];exact .mk' h rfl
 ·split at h
  ·have e:Ci _ _ _:=Bo c h.1
   unfold Ci at e
   simp only[ren,Ey]
   rw[e];exact .mk' h.2 rfl
  grind
 ·split at h
  ·have e:Bz _ _:=Bo c h.1
   unfold Bz at e
   simp only[ren,Ey]
   rw[e];exact .mk' h.2 rfl
  grind
 grind
theorem yf{s d:TypeId}{i j:TI}(hi:TIok P s i)(k:TIok P d j){x:AV}(l:∀b,g=some b→b=true)(h:TK i j x g a K):EP P s d (ren r x) (KR r K):=by
 unfold TK at h
 split at h
 ·split at h
  ·rename_i q n p k' o m t c f
   have e:Ci _ _ _:=Bo l h.1
   unfold Ci at e
   simp only[ren,EP,hi.ik _ c,k.ik _ f]
   rw[e];exact .mk' h.2 rfl
  grind
 ·split at h
  ·rename_i c f
   simp only[ren,EP,Hy (by rw[hi.kin];exact Yb c),Hy (by rw[k.kin];exact Yb f)]
   exact .mk' h rfl
  grind
 grind
theorem Mq{d l:Nat}{o a:Option AV}(h:CZ d o l)(b:a=o.map (ren r)):D1 d a=some l:=by
 subst b
 unfold CZ at h
 split at h
 ·simp[D1,h]
 ·subst h
  simp[D1,ren]
 grind
theorem ya{t:TypeId}{i:TI}(hi:TIok P t i)(B:Do r H H')(c:∀b,g=some b→b=true){x:AV}{lo q:Option AV}{v:Bool}(h:Tu i H x lo q v g a K):
  Eg P H' t (ren r x) (lo.map (ren r)) (q.map (ren r)) v (KR r K):=by
 unfold Tu at h
 split at h
 ·split at h
  ·split at h
   ·rename_i C
    obtain⟨m,n,o,p⟩:=h
    have f:=Mq (r:=r) (Bo c m) rfl
    have j:=Mq (r:=r) (Bo c n) rfl
    have d:EB _ _ _:=Bo c o
    simp only[ren,Eg,f,j]
    exact⟨by rw[hi.kin];exact Yb C,trivial,d.1,d.2,.mk' p rfl⟩
   grind
  ·split at h
   ·rename_i e sz w D he
    split at h
    ·rename_i l
     have l:=Yg l
     obtain⟨m,n,o,p,u⟩:=h
     have f:=Mq (r:=r) (Bo c m) rfl
     have j:=Mq (r:=r) (Bo c n) rfl
     have d:EB _ _ _:=Bo c o
     have k:Nh _ _ _ _ _:=Bo c p
     simp only[ren,Eg,f,j,hi.elm _ he]
     exact⟨trivial,by omega,k.1,d.1,d.2,.mk' u (by rw[ren,k.2])⟩
    grind
   grind
  ·split at h
   ·rename_i e sz I G D he hl
    split at h
    ·rename_i l s
     have l:=Yg l
     obtain⟨y,z,E,A,F⟩:=B.at hl
     obtain⟨m,n,o,p,u⟩:=h
     have f:=Mq (r:=r) (Bo c m) rfl
     have j:=Mq (r:=r) (Bo c n) rfl
     have d:EB _ _ _:=Bo c o
     have k:UT _ _ _ _ _:=Bo c p
     simp only[ren,Eg,f,j,hi.elm _ he]
     exact⟨trivial,y,z,by omega,by rw[A];exact Yb s,d.1,d.2,.mk' u (by rw[ren,k.1,k.2])⟩
    grind
   grind
  grind
 grind
theorem yD{t:TypeId}{i:TI}(hi:TIok P t i)(k:Do r H H')(d:∀b,g=some b→b=true){x:AV}(h:Q1 i H x g a K):DL P H' t (ren r x) (KR r K):=by
 unfold Q1 at h
 split at h
 ·split at h
  ·rename_i c
   have e:Bz _ _:=Bo d h.1
   unfold Bz at e
   simp only[ren,DL,hi.kin]
   exact⟨Yb c,.mk' h.2 (by rw[ren,e])⟩
  grind
 ·split at h
  ·rename_i c
   have e:Bz _ _:=Bo d h.1
   unfold Bz at e
   simp only[ren,DL,hi.kin]
   exact⟨Yb c,.mk' h.2 (by rw[ren,e])⟩
  grind
 ·split at h
  ·rename_i c
   have e:Bz _ _:=Bo d h.1
   unfold Bz at e
   simp only[ren,DL,hi.kin]
   exact⟨Yb c,.mk' h.2 (by rw[ren,e])⟩
  grind
 ·split at h
  ·rename_i c hl
   have e:Bz _ _:=Bo d h.1
   unfold Bz at e
   obtain⟨f,j,_⟩:=k.at hl
   simp only[ren,DL,hi.kin]
   exact⟨Yb c,f,j,.mk' h.2 (by rw[ren,e])⟩
  grind
 grind
theorem yE(a:Do r H H'){x:AV}{y:Bool×List (List D)}(h:bM H x=some y):MH H' (ren r x)=some y:=by
 unfold bM at h
 split at h
 ·simp only[ren,MH];exact h
 ·split at h
  ·rename_i k g _ _ q b hl he
   obtain⟨c,d,e,_,_⟩:=a.at hl
   simp only[ren,MH]
   grind
  ·cases h
 ·cases h
theorem oC(q:Bool)(ds:List D):ren r (M2 q ds)=M2 q ds:=by
 unfold M2
 split<;>simp[ren,HE]
theorem Zy5(a q:Bool)(ds:List D)(ok:Bool):ren r (M1 a q ds ok)=M1 a q ds ok:=by
 unfold M1
 cases a
 ·exact oC q ds
 ·simp only[ren,Al,oC]
theorem yh{t:TypeId}{i:TI}(hi:TIok P t i)(k:Do r H H')(l:∀b,g=some b→b=true){x y:AV}{c:Bool}(h:TS i H x y c g a K):Gg P H' t (ren r x) (ren r y) c (KR r K):=by
 unfold TS at h
 split at h
 ·rename_i q z p o s ok vs n f j
  split at h
  ·rename_i m
   obtain⟨d,e⟩:Ph _ _ _ _ _:=Bo l h.1
   simp only[Gg,hi.mp _ f,yE k j,ren]
   exact⟨s5 m,.mk' h.2 (by rw[d,e,Zy5])⟩
  grind
 grind
theorem On{x:AV}{vs:List AV}(h:CP x=some vs)(hx:∀f xs ys,x≠.fn (.yield f) xs ys):CP (ren r x)=some (Al r vs):=by
 cases x<;>simp only[CP,Yh]at h<;>try (cases h;done)
 case fn f xs ys=>
  subst h
  cases f with
  |yield i=>exact absurd rfl (hx i xs ys)
  |_=>simp[ren,Al,CP]
 all_goals(subst h;simp[ren,Al,CP])
theorem OI{x:AV}(h:I5 x=true):∀f xs ys,x≠.fn (.yield f) xs ys:=by
 rintro f xs ys rfl;cases h
theorem si{t:TypeId}{i:TI}(hi:TIok P t i){f o n:Nat}(h:dj i f=some (o,n)):fld P t f=some (o,n):=by
 unfold dj at h
 split at h
 ·rename_i d c b a
  simp only[Yh,Gy]at h
  obtain⟨rfl,rfl⟩:=h
  exact(Mm hi a).1
 ·cases h
theorem lJ{t:TypeId}{i:TI}(hi:TIok P t i):∀(ps:List (Nat×AV)) (z cs:List AV),(∀p∈ps,I5 p.2=true)→Pm i z ps=some cs→Co (fld P t) (Al r z) (ps.map fun p=>(p.1,ren r p.2))=some (Al r cs)
 |[],z,cs,_,h=>by
  simp only[Pm,Yh]at h
  subst h
  simp[Co]
 |(f,v)::ps,z,cs,e,h=>by
  simp only[Pm]at h
  split at h
  ·rename_i off size vs a g
   split at h
   ·rename_i c d
    have c:=Yb c
    have d:=Yg d
    have b:=On (r:=r) g (OI (e (f,v) (Yz ..)))
    simp only[YR,Co,si hi a,b,Cu]
    rw[Yi (by omega)]
    have:=lJ hi ps _ cs (fun p a=>e p (Yx _ a)) h
    rw[←this]
    simp only[GH,Fk,EG]
   ·cases h
  ·cases h
theorem x1{t:TypeId}{i:TI}(hi:TIok P t i){parts:List (Nat×AV)}(e:∀p∈parts,I5 p.2=true)(f:∀z,i.zer=some z→Al r z=z)(h:Tc i parts a K):
  Fm P t (parts.map fun p=>(p.1,ren r p.2)) (KR r K):=by
 unfold Tc at h
 split at h
 ·rename_i z c b
  split at h
  ·rename_i cs d
   have:=lJ (r:=r) hi _ _ _ e d
   unfold Fm
   rw[hi.zer _ b]
   rw[f z b]at this
   simp only[this]
   exact⟨hi.str c,.mk' h rfl⟩
  grind
 grind
theorem Ztg{x:AV}(h:x.flat=true):ren r x=x:=by cases x<;>first|(simp[ren];done)|cases h
theorem JV{z:List AV}(h:z.all AV.flat=true):Al r z=z:=by
 induction z with
 |nil=>simp[Al]
 |cons x z a=>
  simp only[Iv,Yc]at h
  rw[Al,Ztg h.1,a h.2]
theorem lK{c x y:Operand}{ρ d:Operand→AV}{t:Bool}(e:ρ c=.d (.bool t))(b:d c=ren r (ρ c))(hx:t=true→d x=ren r (ρ x))(hy:t=false→d y=ren r (ρ y))(h:tV T H (.pick c x y) ρ g a K):
  A2 P H' (.pick c x y) d (KR r K):=by
 simp only[tV,e]at h
 rw[e]at b
 simp only[ren]at b
 simp only[A2,b]
 rw[Ztu]at h
 cases t
 ·exact .mk' h (by simp[hy rfl])
 ·exact .mk' h (by simp[hx rfl])
theorem aW{ρ a:Operand→AV}{xs:List Operand}(h:∀x∈xs,a x=ren r (ρ x)):xs.map a=Al r (xs.map ρ):=by
 rw[Fl,Hj]
 exact Y8 h
theorem nA{ρ a:Operand→AV}{o:Option Operand}(h:∀x,o=some x→a x=ren r (ρ x)):o.map a=(o.map ρ).map (ren r):=by
 cases o with
 |none=>rfl
 |some x=>simp[h x rfl]
theorem mf{r:Ren}{b:Bool}{x y:AV}{a:AT}{K:AV→AT→Prop}(h:D6 b x y (fun v=>K v a)):D6 b (ren r x) (ren r y) (KR r K):=by
 unfold D6 at h
 split at h
 ·simp only[ren,D6];exact .mk' h rfl
 grind
theorem ZtK(n:A5 P T)(C:Do r H H')(A:∀b,g=some b→b=true){op:Op}{ρ w:Operand→AV}(Y:∀x∈op.operands,w x=ren r (ρ x))(h:tV T H op ρ g a K):A2 P H' op w (KR r K):=by
 have get:∀{x:Operand},x∈op.operands→w x=ren r (ρ x):=fun hx=>Y _ hx
 cases op<;>simp only[tV]at h<;>try exact h.elim
 case move x=>exact .mk' h (get (by simp[Op.operands]))
 case assign x=>exact .mk' h (get (by simp[Op.operands]))
 case pick c x y=>
  split at h
  ·rename_i t l
   exact lK (a:=a) (g:=g) (T:=T) (H:=H) l (get (by simp[Op.operands])) (fun _=>get (by simp[Op.operands])) (fun _=>get (by simp[Op.operands])) (by simp only[tV,l];exact h)
  ·grind
 case load t x=>
  split at h
  ·rename_i i hi;simp only[A2];rw[get (x:=x) (by simp[Op.operands])];exact Zk (n _ _ hi) C A h
  ·grind
 case fieldAddr t x f=>
  split at h
  ·rename_i i hi;simp only[A2];rw[get (x:=x) (by simp[Op.operands])];exact xH (n _ _ hi) C h
  ·grind
 case field t x f=>
  split at h
  ·rename_i i hi;simp only[A2];rw[get (x:=x) (by simp[Op.operands])];exact ye (n _ _ hi) h
  ·grind
 case indexAddr t x j=>
  split at h
  ·rename_i i hi;simp only[A2];rw[get (x:=x) (by simp[Op.operands]),get (x:=j) (by simp[Op.operands])];exact xG (n _ _ hi) C A h
  ·grind
 case index t x j=>
  split at h
  ·rename_i i hi;simp only[A2];rw[get (x:=x) (by simp[Op.operands]),get (x:=j) (by simp[Op.operands])];exact x8 (n _ _ hi) A h
  ·grind
 case makeInterface t x=>
  split at h
  case h_2=>exact h.elim
  rename_i i hi
  have E:(i.str||i.elm.isSome)=true→Jt P t=true:=qA (n _ _ hi)
  simp only[A2]
  rw[get (x:=x) (by simp[Op.operands])]
  split at h
  ·rename_i xs D hx
   rw[hx]
   simp only[ren]
   split at h
   case h_2=>exact h.elim
   rename_i ds N
   have e:=SC N
   subst e
   rw[HE,N]
   exact⟨E D,.mk' h rfl⟩
  ·rename_i y D hx
   rw[hx]
   simp only[ren]
   exact⟨E D,.mk' h rfl⟩
  ·exact h.elim
 case typeAssert x u t ok=>
  split at h
  case h_2=>exact h.elim
  rename_i i hi
  have E:(i.str||i.elm.isSome)=true→Jt P t=true:=qA (n _ _ hi)
  simp only[A2]
  rw[get (x:=x) (by simp[Op.operands])]
  split at h
  case h_2=>exact h.elim
  rename_i u ds q D hx
  rw[hx]
  simp only[ren]
  split at h
  case h_2=>exact h.elim
  rename_i v W F
  rw[F]
  have G:ren r v=v:=by
   cases q with
   |true=>cases F;simp only[ren,HE]
   |false=>
    match ds,F with
    |[d],F=>cases F;simp only[ren]
  refine⟨E D,Yb W,.mk' h ?_⟩
  cases ok with
  |true=>simp only[cond,ren,Al,G]
  |false=>exact G.symm
 case extract x j=>
  simp only[A2]
  rw[get (x:=x) (by simp[Op.operands])]
  split at h
  ·rename_i vs hx
   rw[hx]
   simp only[ren,HA]
   rw[Cb]at h
   split at h
   ·rename_i y hy;rw[hy];exact .mk' h rfl
   grind
  ·grind
 case binOp o t x y u=>
  split at h
  ·rename_i i hi;simp only[A2];rw[get (x:=x) (by simp[Op.operands]),get (x:=y) (by simp[Op.operands])];exact y4 (n _ _ hi) C A h
  ·grind
 case unOp o t x=>simp only[A2];rw[get (x:=x) (by simp[Op.operands])];exact zO A h
 case nilCheck x=>
  split at h
  ·rename_i k q off hx
   split at h
   ·rename_i hl
    simp only[A2]
    rw[get (x:=x) (by simp[Op.operands]),hx]
    obtain⟨g1,O,_,_,_⟩:=C.at hl
    simp only[ren,I9]
    exact⟨g1.symm▸rfl,O,.mk' h (by simp[ren])⟩
   grind
  ·rename_i cs off hx
   simp only[A2]
   rw[get (x:=x) (by simp[Op.operands]),hx]
   simp only[ren,I9]
   exact .mk' h (by simp[ren])
  ·grind
 case convert s d x=>
  split at h
  ·rename_i i j hi U;simp only[A2];rw[get (x:=x) (by simp[Op.operands])];exact yf (n _ _ hi) (n _ _ U) A h
  ·grind
 case makeFunc fn first B=>
  have m:first.toList.map w=Al r (first.toList.map ρ):=aW fun x hx=>get (by simp only[Op.operands,Ny];exact .inl (by simpa using hx))
  have I:B.toList.map w=Al r (B.toList.map ρ):=aW fun x hx=>get (by simp only[Op.operands,Ny];exact .inr (by simpa using hx))
  simp only[A2]
  rw[m,I]
  split at h
  ·grind
  ·rename_i L
   refine .mk' h ?_
   cases fn<;>first|exact absurd rfl (L _)|simp[ren]
 case slice t x lo hi mx=>
  split at h
  ·rename_i i J
   simp only[A2]
   rw[get (x:=x) (by simp[Op.operands]),nA (o:=lo) (fun y hy=>get (by subst hy;simp[Op.operands])),nA (o:=hi) (fun y hy=>get (by subst hy;simp[Op.operands]))]
   exact ya (n _ _ J) C A h
  ·grind
 case build t parts=>
  split at h
  ·rename_i i hi E
   simp only[A2]
   have e:(parts.toList.map fun p=>(p.1,w p.2))=(parts.toList.map fun p=>(p.1,ρ p.2)).map fun p=>(p.1,ren r p.2):=by
    rw[Hj]
    refine Y8 fun p M=>?_
    simp only[Function.comp]
    rw[get (x:=p.2) (by simp only[Op.operands,Nz,YT];exact⟨p,M,rfl⟩)]
   rw[e]
   refine x1 (n _ _ hi) (fun p M=>?_) (fun z X=>JV ((n _ _ hi).flt z X)) h
   obtain⟨q,hq,rfl⟩:=YT.1 M
   grind
  ·grind
 case lookup t x y Z=>
  split at h
  ·rename_i i hi;simp only[A2];rw[get (x:=x) (by simp[Op.operands]),get (x:=y) (by simp[Op.operands])];exact yh (n _ _ hi) C A h
  ·grind
 case call c=>
  split at h
  ·rename_i x t l hx V
   split at h
   ·rename_i i hi
    have m:c.args=#[x]:=CN (by simpa using hx)
    have I:c.argTypes=#[t]:=CN (by simpa using V)
    simp only[A2,l,m,I]
    show 1=1∧DL P H' t (w x) (KR r K)
    rw[get (x:=x) (by simp[Op.operands,Call.operands,l,m])]
    exact⟨rfl,yD (n _ _ hi) C A h⟩
   grind
  ·rename_i x y l hx
   have m:c.args=#[x,y]:=CN (by simpa using hx)
   simp only[A2,l,m]
   show D6 false (w x) (w y) (KR r K)
   rw[get (x:=x) (by simp[Op.operands,Call.operands,l,m]),get (x:=y) (by simp[Op.operands,Call.operands,l,m])]
   exact mf h
  ·rename_i x y l hx
   have m:c.args=#[x,y]:=CN (by simpa using hx)
   simp only[A2,l,m]
   show D6 true (w x) (w y) (KR r K)
   rw[get (x:=x) (by simp[Op.operands,Call.operands,l,m]),get (x:=y) (by simp[Op.operands,Call.operands,l,m])]
   exact mf h
  ·rename_i x y z l hx
   have m:c.args=#[x,y,z]:=CN (by simpa using hx)
   simp only[A2,l,m]
   show G3 true (w x) (w y) (w z) (KR r K)
   rw[get (x:=x) (by simp[Op.operands,Call.operands,l,m]),get (x:=y) (by simp[Op.operands,Call.operands,l,m]),get (x:=z) (by simp[Op.operands,Call.operands,l,m])]
   unfold G3 at h
   split at h
   ·rename_i Q R S
    rw[Q,R,S]
    simp only[ren,G3];exact .mk' h rfl
   grind
  ·grind
end
abbrev CI:=List (Nat×Bool)
abbrev Bx:=List (Nat×CI)
def lk:Bx→Nat→CI
 |[],_=>[]
 |(i,c)::r,j=>match Nat.beq i j with|true=>c|false=>lk r j
def NJ(t:Bool):Bool→Bool
 |true=>t
 |false=>!t
theorem ZU{t b:Bool}:NJ t b=true↔t=b:=by cases t<;>cases b<;>simp[NJ]
def JN:CI→CI→Bool
 |[],[]=>true
 |(i,a)::r,(j,b)::q=>Nat.beq i j&&NJ a b&&JN r q
 |_,_=>false
theorem aU:∀{a b:CI},JN a b=true→a=b
 |[],[],_=>rfl
 |(i,a)::r,(j,b)::q,h=>by
  simp only[JN,Yc]at h
  rw[Yb h.1.1,ZU.1 h.1.2,aU h.2]
 |[],_::_,h=>by simp[JN]at h
 |_::_,[],h=>by simp[JN]at h
def QW(a:CI):CI→Bool
 |[]=>JN a []
 |q::b=>JN a (q::b)||QW a b
theorem nC{a:CI}:∀{b:CI},QW a b=true→∀q∈a,q∈b
 |[],h,q,c=>by rw[aU h]at c;exact c
 |p::b,h,q,c=>by
  simp only[QW,YF]at h
  rcases h with h|h
  ·rw[aU h]at c;exact c
  ·exact Yx _ (nC h q c)
def CJ(s:Nat→AV)(c:CI):Prop:=∀q∈c,s q.1=.d (.bool q.2)
def F3(s:Nat→AV):CI→Option Bool
 |[]=>some true
 |[(d,b)]=>match s d with|.d (.bool t)=>some (NJ t b)|_=>none
 |(d,b)::r=>match s d,F3 s r with|.d (.bool t),some c=>some (c&&NJ t b)|_,_=>none
theorem ID{s:Nat→AV}:∀{c:CI} {g:Bool},F3 s c=some g→(g=true↔CJ s c)
 |[],g,h=>by simp only[F3,Yh]at h;subst h;simp[CJ]
 |[(d,b)],g,h=>by
  simp only[F3]at h
  split at h
  ·rename_i t f
   simp only[Yh]at h
   subst h
   rw[ZU]
   simp[CJ,f]
  ·cases h
 |(d,b)::q::r,g,h=>by
  simp only[F3]at h
  split at h
  ·rename_i t c f i
   simp only[Yh]at h
   subst h
   have j:=ID i
   rw[Yc,j,ZU]
   constructor
   ·rintro⟨e,rfl⟩ p a
    rcases Yu.1 a with rfl|a
    ·exact f
    ·exact e p a
   ·intro e
    refine⟨fun p a=>e p (Yx _ a),?_⟩
    have:=e (d,b) (Yz ..)
    grind
  ·cases h
def Ko(e:Nat)(c:CI):Bool:=c.all fun q=>!Nat.beq q.1 e
def fresh(e:Nat)(env:Bx):Bool:=env.all fun p=>Ko e p.2
theorem nf{s:Nat→AV}{e:Nat}{v:AV}{c:CI}(h:Ko e c=true):CJ (upd s e v) c↔CJ s c:=by
 have key:∀q∈c,upd s e v q.1=s q.1:=fun q a=>by
  have:=Ys.1 h q a
  unfold upd
  rw[Yi]
  intro he
  subst he
  simp at this
 constructor
 ·exact fun h q a=>(key q a)▸h q a
 ·exact fun h q a=>(key q a).trans (h q a)
theorem m7{e:Nat}:∀{env:Bx},fresh e env=true→∀j,Ko e (lk env j)=true
 |[],_,j=>rfl
 |(i,c)::r,h,j=>by
  simp only[fresh,Iv,Yc]at h
  simp only[lk]
  split
  ·exact h.1
  ·exact m7 h.2 j
theorem ax{env:Bx}{e:Nat}{c:CI}(j:Nat):lk ((e,c)::env) j=if j=e then c else lk env j:=by
 simp only[lk]
 by_cases h:j=e
 ·subst h;simp
 ·rw[Yi h]
  split
  ·rename_i a;exact absurd (Yb a).symm h
  ·rfl
def Ii(env:Bx)(c:CI):Operand→Bool
 |.tmp t=>QW (lk env t) c
 |_=>true
def Cd(env:Bx)(c:CI):Op→Bool
 |.pick (.tmp d) x y=>Ii env c (.tmp d)&&Ii env ((d,true)::c) x&&Ii env ((d,false)::c) y
 |op=>op.operands.toList.all (Ii env c)
structure RenOk (r:Ren) (l outs:Nat):Prop where
 own:∀d,r.κ (1,d)=(l+1,d)
 out:∀i,i<outs→(r.κ (0,i)).1≤l
 inj:∀i j,i<outs→j<outs→r.κ (0,i)=r.κ (0,j)→i=j
 no:∀k,r.no k→∃i,i<outs∧r.κ (0,i)=k
structure RG (r:Ren) (l outs:Nat) (env:Bx) (τ σ:St):Prop where
 s:∀j,(CJ τ.s (lk env j)→σ.s j=ren r (τ.s j))∧(¬CJ τ.s (lk env j)→σ.s j=.tup [])
 h:Do r τ.H σ.H
 g:∀d,(σ.H (l+1,d)).g=r.γ (1,d)+(τ.H (1,d)).g
 go:∀i,i<outs→(σ.H (r.κ (0,i))).g=r.γ (0,i)+(τ.H (0,i)).g
 k:∀k,(τ.H k).live=true→k.1=1∨(k.1=0∧k.2<outs)
 o:∀k:Ad,k.1≤l→¬r.no k→σ.H k=r.H0 k
def GO(P:Program)(l:Nat)(r:Ren)(f:FuncId)(xs:List AV)(c:List (Ad×Blk))(x:AV):Prop:=
 ∀a,(∀p∈c,p.2.live=true→a (r.κ p.1)=AE r p.1 p.2)→(∀k:Ad,k.1≤l→¬r.no k→a k=r.H0 k)→Zcu P f (l+1) (Al r xs) a (fun y b=>y=ren r x∧b=a)
def MG(P:Program)(l:Nat)(r:Ren)(i:Nat)(xs:List AV)(d:List (Ad×Blk))(x:AV):Prop:=
 ∃f first a,r.θ i=.fn (.func f) first a∧∀b,(∀p∈d,p.2.live=true→b (r.κ p.1)=AE r p.1 p.2)→(∀k:Ad,k.1≤l→¬r.no k→b k=r.H0 k)→Zcu P f (l+1) (first++Al r xs++a) b (fun y c=>y=ren r x∧c=b)
def Uj(P:Program)(l:Nat)(r:Ren)(H:Hp)(f:AV)(xs:List AV)(g:Option Bool)(a:AT)(K:AV→AT→Prop):Prop:=
 match f,a with
 |.fn (.func i) first b,.call x ks a=>Bh g (GO P l r i (first++xs++b) (ks.map fun k=>(k,H k)) x)∧K x a
 |.fn (.yield i) _ _,.call x ks a=>Bh g (MG P l r i xs (ks.map fun k=>(k,H k)) x)∧K x a
 |_,_=>False
def Un(T:Nat→Option TI)(τ:St)(t:TypeId)(len:Nat)(parts:List (Nat×Operand))(a:AT)(K:AV→AT→Prop):Prop:=
 match T t with
 |some i=>(match i.elm with
  |some (e,sz)=>(match Nat.ble 1 sz,len with
   |true,0=>(match parts with|[]=>K .e0 a|_=>False)
   |true,len+1=>(match T e,Nat.ble ((len+1)*sz) 16777216 with
    |some j,true=>(match j.zer with
     |some z=>(match Nat.beq z.length sz,FI sz 0 (parts.map fun p=>(p.1,ev τ.s p.2))with
      |true,some es=>(match Nat.beq es.length (len+1)with|true=>K (.d (.list es)) a|false=>False)
      |_,_=>False)
     |none=>False)
    |_,_=>False)
   |_,_=>False)
  |none=>False)
 |none=>False
def pV(P:Program)(T:Nat→Option TI)(l:Nat)(r:Ren)(τ:St)(op:Op)(g:Option Bool)(a:AT)(K:AV→AT→Prop):Prop:=
 match op with
 |.call c=>match c.callee with
  |.value f=>Uj P l r τ.H (ev τ.s f) (c.args.toList.map (ev τ.s)) g a K
  |_=>tV T τ.H op (ev τ.s) g a K
 |.buildSlice t len parts=>Un T τ t len parts.toList a K
 |op=>tV T τ.H op (ev τ.s) g a K
def EW(n d:Nat)(K:St→AT→Prop)(τ:St)(v:AV)(a:AT):Prop:=
 match Nat.ble (d+1) n with
 |true=>K ⟨upd τ.s d v,τ.H⟩ a
 |false=>False
section
variable {P:Program} {T:Nat→Option TI} {r:Ren} {l n outs:Nat} {env:Bx} {τ σ:St} {g:Option Bool} {a:AT} {c:CI}
theorem tW(v:Value):ren r (cv v)=cv v:=by unfold cv;split<;>simp[ren]
theorem J9(h:RG r l outs env τ σ)(hs:CJ τ.s c){x:Operand}(hx:Ii env c x=true):ev σ.s x=ren r (ev τ.s x):=by
 cases x with
 |tmp t=>exact(h.s t).1 fun q a=>hs q (nC hx q a)
 |const v=>exact(tW v).symm
 |global g=>simp[ev,ren]
 |func f=>simp[ev,ren,Al]
theorem FY(h:RG r l outs env τ σ)(hs:CJ τ.s c){op:Op}(hx:op.operands.toList.all (Ii env c)=true):∀x∈op.operands,ev σ.s x=ren r (ev τ.s x):=
 fun x hm=>J9 h hs (Ys.1 hx x (by simpa using hm))
theorem pU(s:A5 P T)(h:RG r l outs env τ σ)(hs:CJ τ.s c)(u:∀b,g=some b→b=true){op:Op}(hx:Cd env c op=true){K:AV→AT→Prop}(i:tV T τ.H op (ev τ.s) g a K):
  A2 P σ.H op (ev σ.s) (KR r K):=by
 unfold Cd at hx
 split at hx
 ·rename_i d x y
  simp only[Yc]at hx
  obtain⟨⟨n,o⟩,p⟩:=hx
  have f:=i
  simp only[tV]at f
  split at f
  ·rename_i t k
   have m:=J9 h hs n
   refine lK (T:=T) (H:=τ.H) (g:=g) (a:=a) k m (fun e=>J9 h (c:=(d,true)::c) ?_ o) (fun e=>J9 h (c:=(d,false)::c) ?_ p) i
   all_goals
    subst e
    intro q j
    rcases Yu.1 j with rfl|j
    ·exact k
    ·exact hs q j
  grind
 ·exact ZtK s h.h u (FY h hs hx) i
theorem ZH(h:RG r l outs env τ σ)(hs:CJ τ.s c)(s:∀b,g=some b→b=true){cl:Call}{f:Operand}(o:cl.callee=.value f)(hx:Cd env c (.call cl)=true){K:AV→AT→Prop}
  (e:Uj P l r τ.H (ev τ.s f) (cl.args.toList.map (ev τ.s)) g a K):
  ∃i first d x j,ev σ.s f=.fn (.func i) first d∧Zcu P i (l+1) (first++cl.args.toList.map (ev σ.s)++d) σ.H (fun y t=>y=ren r x∧t=σ.H)∧K x j:=by
 have hx:(Op.call cl).operands.toList.all (Ii env c)=true:=hx
 have q:=FY h hs hx f (by simp[Op.operands,Call.operands,o])
 have m:cl.args.toList.map (ev σ.s)=Al r (cl.args.toList.map (ev τ.s)):=aW fun x hm=>FY h hs hx x (by simp only[Op.operands,Call.operands,o,Ny];exact .inr (by simpa using hm))
 have n:∀ks:List Ad,∀p∈ks.map fun k=>(k,τ.H k),p.2.live=true→σ.H (r.κ p.1)=AE r p.1 p.2:=fun ks p e hl=>by
  obtain⟨k,A,rfl⟩:=YT.1 e
  exact h.h k hl
 unfold Uj at e
 split at e
 ·rename_i i first d x ks j he
  have v:GO _ _ _ _ _ _ _:=Bo s e.1
  refine⟨i,Al r first,Al r d,x,j,by rw[q,he];simp[ren],?_,e.2⟩
  rw[m,←GH,←GH]
  exact v σ.H (n ks) h.o
 ·rename_i i xs ys x ks j he
  obtain⟨u,first,d,w,z⟩:MG _ _ _ _ _ _ _:=Bo s e.1
  refine⟨u,first,d,x,j,by rw[q,he];simp[ren,w],?_,e.2⟩
  rw[m]
  exact z σ.H (n ks) h.o
 grind
theorem RG.put(h:RG r l outs env τ σ){e:Nat}{ch:CI}(b:fresh e env=true)(c:Ko e ch=true){v:AV}{y:AV}(hy:CJ τ.s ch→y=ren r v)(d:¬CJ τ.s ch→y=.tup []):
  RG r l outs ((e,ch)::env) ⟨upd τ.s e v,τ.H⟩ ⟨upd σ.s e y,σ.H⟩:=by
 refine⟨fun j=>?_,h.h,h.g,h.go,h.k,h.o⟩
 simp only
 rw[ax]
 by_cases a:j=e
 ·subst a
  rw[Yk rfl,nf c]
  simp only[upd,Yy]
  grind
 ·rw[Yi a,nf (m7 b j)]
  simp only[upd,Yi a]
  exact h.s j
end
section
variable {P:Program} {l n:Nat} {H:Hp} {m:Mu} {S:Nat→Prop} {w w':World} {s:Nat→AV} {a:Act}
theorem Ok.allocO(h:Ok l H m S w)(k:Ad)(O:k.1≤l)(b:Blk)(K:b.e.isO=true)(u:b.cells=[])(N:(H k).g<b.g)(o:Obj)(D:w'.heap=w.heap.push o)
  (J:Jb w' S w.heap.size b.e) (F:w'.os=w.os) (G:w'.tape=w.tape) (I:w'.output=w.output):
  Ok l (updH H k b) (A7 m k ⟨w.heap.size,0,0⟩) S w'∧Ext l H m S w (updH H k b) (A7 m k ⟨w.heap.size,0,0⟩) S w':=by
 have d:∀i,i<w.heap.size→w'.heap[i]?=w.heap[i]?:=fun i hi=>by rw[D,Lc,Yi (by omega)]
 have j:Ext l H m S w (updH H k b) (A7 m k ⟨w.heap.size,0,0⟩) S w':=by
  refine⟨fun _ h=>h,fun i hi=>d i (h.sub i hi),fun q a=>?_,fun q a y hl=>?_,F,G,I,by rw[D];simp⟩
  ·by_cases e:q=k
   ·subst e;rw[AM];omega
   ·rw[AB _ _ e];exact Ye _
  ·by_cases e:q=k
   ·subst e;rw[AM]at y;omega
   ·rw[AB _ _ e]at hl⊢;rw[AR _ _ e];exact⟨hl,rfl,rfl⟩
 have B:∀q:Ad,q.1≤l→(H q).live=true→(m q).cap≠0→(m q).b<w.heap.size:=fun q a hl n=>by
  obtain⟨C,t,_⟩:=h.blk q a hl n
  grind
 have A:∀q:Ad,q.1≤l→(H q).live=true→(H q).e.isO=true→(m q).b<w.heap.size:=fun q a hl n=>by
  obtain⟨C,t,_⟩:=(h.mp.o q a hl).at n
  grind
 refine⟨⟨fun i hi=>?_,fun q a hl c=>?_,fun q a hl c=>?_,fun q s a r hl f c g heq=>?_,fun q a hl c=>?_,
  ⟨fun q a hl=>?_,fun q a hl he=>?_,fun q s a r hl f he p heq=>?_⟩⟩,j⟩
 ·have:=h.sub i hi;rw[D];simp;omega
 ·by_cases e:q=k
  ·subst e;rw[AM];exact u
  ·rw[AB _ _ e]at hl⊢;rw[AR _ _ e]at c;exact h.empty q a hl c
 ·by_cases e:q=k
  ·subst e;rw[AY]at c;exact absurd rfl c
  ·rw[AB _ _ e]at hl;rw[AR _ _ e]at c⊢;exact h.fresh q a hl c
 ·by_cases e:q=k
  ·subst e;rw[AY]at c;exact absurd rfl c
  ·by_cases e':s=k
   ·subst e';rw[AY]at g;exact absurd rfl g
   ·rw[AR _ _ e,AR _ _ e']at heq
    rw[AB _ _ e]at hl;rw[AB _ _ e']at f
    rw[AR _ _ e]at c;rw[AR _ _ e']at g
    exact h.inj q s a r hl f c g heq
 ·by_cases e:q=k
  ·subst e;rw[AY]at c;exact absurd rfl c
  ·rw[AB _ _ e]at hl⊢
   rw[AR _ _ e]at c⊢
   obtain⟨C,t,hs,z,hx⟩:=h.blk q a hl c
   refine⟨C,by rw[d _ (B q a hl c)];exact t,hs,z,fun i x v hi M=>?_⟩
   obtain⟨E,g2⟩:=hx i x v hi M
   exact⟨E,g2.ext j a⟩
 ·by_cases e:q=k
  ·subst e;rw[AM,AY];exact J
  ·rw[AB _ _ e]at hl⊢;rw[AR _ _ e]
   exact(h.mp.o q a hl).mono (fun _ h=>h) (fun i hi=>d i (h.sub i hi)) (fun L=>d _ (A q a hl L))
 ·by_cases e:q=k
  ·subst e;rw[AY];exact⟨⟨rfl,rfl⟩,fun hs=>by have:=h.sub _ hs;simp at this⟩
  ·rw[AB _ _ e]at hl he;rw[AR _ _ e];exact h.mp.c q a hl he
 ·by_cases e:q=k<;>by_cases e':s=k
  ·grind
  ·subst e
   rw[AY,AR _ _ e']at heq
   rw[AB _ _ e']at f p
   grind
  ·subst e'
   rw[AY,AR _ _ e]at heq
   rw[AB _ _ e]at hl he
   grind
  ·rw[AR _ _ e,AR _ _ e']at heq
   rw[AB _ _ e]at hl he;rw[AB _ _ e']at f p
   exact h.mp.i q s a r hl f he p heq
theorem Ok.writeO(h:Ok l H m S w)(k:Ad)(y:k.1≤l)(hl:(H k).live=true)(t:(H k).e.isO=true)(e':EK)(n:e'.isO=true)(o:Obj)
  (F:∀b,w'.heap[b]?=if b=(m k).b then some o else w.heap[b]?) (B:w'.heap.size=w.heap.size) (L:Jb w' S (m k).b e') (I:w'.os=w.os) (J:w'.tape=w.tape) (K:w'.output=w.output):
  Ok l (updH H k {H k with e:=e' }) m S w'∧Ext l H m S w (updH H k {H k with e:=e' }) m S w':=by
 obtain⟨Q,R⟩:=h.mp.c k y hl t
 have j:Ext l H m S w (updH H k {H k with e:=e' }) m S w':=by
  refine⟨fun _ h=>h,fun b s=>?_,fun q d=>?_,fun q d T a=>?_,I,J,K,by omega⟩
  ·grind
  ·by_cases e:q=k
   ·subst e;rw[AM];exact Ye _
   ·rw[AB _ _ e];exact Ye _
  ·by_cases e:q=k
   ·subst e;rw[AM]at a⊢;exact⟨a,rfl,rfl⟩
   ·rw[AB _ _ e]at a⊢;exact⟨a,rfl,rfl⟩
 have f:∀q:Ad,(updH H k {H k with e:=e' } q).live=(H q).live:=fun q=>by
  by_cases e:q=k
  ·subst e;rw[AM]
  ·rw[AB _ _ e]
 have g:∀q:Ad,(H q).e.isO=(updH H k {H k with e:=e' } q).e.isO:=fun q=>by
  by_cases e:q=k
  ·subst e;rw[AM];exact t.trans n.symm
  ·rw[AB _ _ e]
 refine⟨⟨fun b s=>?_,fun q d a r=>?_,fun q d a r=>?_,fun q E d p a c r D heq=>?_,fun q d a r=>?_,
  ⟨fun q d a=>?_,fun q d a he=>?_,fun q E d p a c he n heq=>?_⟩⟩,j⟩
 ·rw[B];exact h.sub b s
 ·rw[f]at a
  have:=h.empty q d a r
  by_cases e:q=k
  ·subst e;rw[AM];exact this
  ·rw[AB _ _ e];exact this
 ·rw[f]at a;exact h.fresh q d a r
 ·rw[f]at a c;exact h.inj q E d p a c r D heq
 ·rw[f]at a
  by_cases e:q=k
  ·grind
  ·rw[AB _ _ e]
   obtain⟨C,s,hs,z,hx⟩:=h.blk q d a r
   have A:(m q).b≠(m k).b:=fun u=>by
    obtain⟨U,O,P⟩:=(h.mp.o k y hl).at t
    rw[u,O]at s;cases s;cases P
   refine⟨C,by rw[F,Yi A];exact s,hs,z,fun i x v hi N=>?_⟩
   obtain⟨G,g2⟩:=hx i x v hi N
   exact⟨G,g2.ext j d⟩
 ·rw[f]at a
  by_cases e:q=k
  ·subst e;rw[AM];exact L
  ·rw[AB _ _ e]
   refine(h.mp.o q d a).mono (fun _ h=>h) j.blk (fun M=>?_)
   rw[F,Yi (fun u=>e (h.mp.i q k d y a hl M t u))]
 ·rw[f]at a;rw[←g]at he;exact h.mp.c q d a he
 ·rw[f]at a c;rw[←g]at he n;exact h.mp.i q E d p a c he n heq
theorem MEnt.push{q:Bool}{es:List (List D)}{ents:Array MapEntry}{a:Nat}{s:ByteArray}{ds:List D}{v:Value}(h:MEnt w S q es ents a)(g:VR w S q ds v):
  MEnt w S q (es++[.str s::ds]) (ents.push {key:=.string s,val:=v,born:=a }) (a+1):=by
 have b:∀(i:Nat) (y:MapEntry),(ents.push {key:=.string s,val:=v,born:=a })[i]?=some y→(i=ents.size∧y={key:=.string s,val:=v,born:=a })∨(i≠ents.size∧ents[i]?=some y):=fun i y hy=>by
  grind
 refine⟨by simp[h.n],fun i k y z hy j e=>?_,fun i y hy=>?_,fun i e y hi hy=>?_⟩
 ·rcases b i y hy with⟨rfl,rfl⟩|⟨a1,c⟩<;>rcases b k z j with⟨rfl,rfl⟩|⟨l,f⟩
  ·rfl
  ·have:=h.clk k z f;simp only at e;omega
  ·have:=h.clk i y c;simp only at e;omega
  ·exact h.born i k y z c f e
 ·rcases b i y hy with⟨rfl,rfl⟩|⟨a1,c⟩
  ·grind
  ·exact UW (h.clk i y c)
 ·rcases b i y hy with⟨rfl,rfl⟩|⟨a1,c⟩
  ·rw[h.n,YC (Ye _),Nat.sub_self]at hi
   cases hi
   exact⟨s,ds,rfl,rfl,g⟩
  ·have d:i<es.length:=by rw[←h.n];exact JY c
   rw[Yr d]at hi
   exact h.e i e y hi c
end
end Go.Eng
