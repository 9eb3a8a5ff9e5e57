import Derived.Test.YtifefgdogdecnaaGreatDoorEa03
import Derived.Test.YtifefgdogdecnaaGreatDoorEa01
import Derived.Maps.RangeRun
import Derived.Test.YtifefgdogdecnaaGreatDoorEa00
namespace Go.Eng
open Go
set_option linter.all false
inductive Waits (ops:Array Oper):Nat→Nat→Prop
 |one {j i:Nat} {oj:Oper} {e:Edge} (hj:ops[j]?=some oj) (he:e∈oj.after) (hb:Region.binds .any e=true) (hi:e.on=i):Waits ops j i
 |more {j m i:Nat} {oj:Oper} {e:Edge} (hj:ops[j]?=some oj) (he:e∈oj.after) (hb:Region.binds .any e=true) (hm:e.on=m) (h:Waits ops m i):Waits ops j i
def I2(L:List Oper)(i:Nat):Nat→Nat→Bool
 |0,_=>false
 |a+1,j=>match AR L j with|some b=>b.after.toList.any fun e=>Region.binds .any e&&(Nat.beq e.on i||I2 L i a e.on)|none=>false
theorem NH{L:List Oper}{i:Nat}:∀(a j:Nat),I2 L i a j=true→Waits L.toArray j i
 |0,j,h=>by cases h
 |a+1,j,h=>by
  unfold I2 at h
  rw[Bi]at h
  split at h
  ·rename_i f d
   obtain⟨e,he,h⟩:=YX.1 h
   rw[Yc,YD]at h
   have c:L.toArray[j]?=some f:=by simpa using d
   rcases h.2 with b|b
   ·exact .one c (by simpa using he) h.1 (Ya b)
   ·exact .more c (by simpa using he) h.1 rfl (NH a _ b)
  ·cases h
def DC(ops:Array Oper)(listed:Array Bool):Prop:=∀(m:Nat) (a:Oper),ops[m]?=some a→listed.getD m false=true→∀e∈a.after,Region.binds .any e=true→listed.getD e.on false=true
theorem DC.waits{ops:Array Oper}{listed:Array Bool}(h:DC ops listed){j i:Nat}(c:Waits ops j i):listed.getD j false=true→listed.getD i false=true:=by
 induction c with
 |one b he a hi=>intro hl;rw[←hi];exact h _ _ b hl _ he a
 |more b he a hm _ d=>intro hl;exact d (by rw[←hm];exact h _ _ b hl _ he a)
theorem fv{listed:Array Bool}{i:Nat}(h:listed.getD i true=false):listed.getD i false=false:=by
 grind
theorem DC.ready{ops:Array Oper}{listed:Array Bool}(h:DC ops listed){j:Nat}(f:j∈Region.ready .any ops listed):DC ops (listed.setIfInBounds j true):=by
 obtain⟨i,k,c,a⟩:=mem_ready.1 f
 intro m g hm hl e he d
 by_cases b:j=m
 ·subst b
  rw[c]at hm
  cases hm
  exact getD_set_true (a e he d)
 ·rw[getD_set_ne false b]at hl
  exact getD_set_true (h m g hm hl e he d)
theorem DC.nowait{ops:Array Oper}{listed:Array Bool}(h:DC ops listed){j i:Nat}(g:j∈Region.ready .any ops listed)(hi:listed.getD i true=false):¬Waits ops j i:=fun k=>by
 obtain⟨l,m,c,b⟩:=mem_ready.1 g
 have hi:=fv hi
 cases k with
 |one a he e f=>
  grind
 |more a he e hm d=>
  rw[c]at a
  cases a
  have:=h.waits d (by rw[←hm];exact b _ he e)
  grind
def A9(o:Oper):Bool:=match o.op,o.dst,o.guard with
 |.store _ _ _,none,none=>true
 |_,_,_=>false
def Ef(o:Oper):Bool:=match o.op with
 |.move _=>true
 |.binOp b _ _ _ _=>(match b with|.add=>true|.sub=>true|_=>false)
 |.indexAddr _ _ _=>true
 |.fieldAddr _ _ _=>true
 |.nilCheck _=>true
 |_=>false
def PA(H H':Hp):Prop:=∀k,(H' k).g=(H k).g∧(H' k).live=(H k).live∧(H' k).sz=(H k).sz
def Jr(L:List Oper)(p:Oper)(k:Nat):Bool:=Bc p k||p.after.toList.any fun e=>Region.binds .any e&&(match L[e.on]? with|some a=>Bc a k|none=>false)
def LX(L:List Oper)(o:Oper)(k:Nat):Nat→List Oper→Bool
 |_,[]=>true
 |j,p::r=>(match A9 o with|true=>Bc p k|false=>true)&&(match A9 p with|true=>Ef o||Jr L p k|false=>true)&&!Bc o j&&LX L o k (j+1) r
def GS(L:List Oper):Nat→List Oper→Bool
 |_,[]=>true
 |k,o::r=>LX L o k (k+1) r&&GS L (k+1) r
theorem Tm{L:List Oper}{o:Oper}{k:Nat}:∀{l:List Oper} {j i:Nat} {p:Oper},LX L o k j l=true→l[i]?=some p→(A9 o=true→Bc p k=true)∧(A9 p=true→Ef o=true∨Jr L p k=true)∧Bc o (j+i)=false
 |[],j,i,p,_,h=>by simp at h
 |q::r,j,i,p,a,h=>by
  simp only[LX,Yc,Y2]at a
  cases i with
  |zero=>
   grind
  |succ i=>
   have:=Tm a.2 (i:=i) (by simpa using h)
   grind
theorem OO{L:List Oper}:∀{l:List Oper} {k i j:Nat} {o p:Oper},GS L k l=true→i<j→l[i]?=some o→l[j]?=some p→(A9 o=true→Bc p (k+i)=true)∧(A9 p=true→Ef o=true∨Jr L p (k+i)=true)∧Bc o (k+j)=false
 |[],k,i,j,o,p,_,_,h,_=>by simp at h
 |q::r,k,i,j,o,p,b,c,h,a=>by
  simp only[GS,Yc]at b
  cases j with
  |zero=>omega
  |succ j=>
   have a:r[j]?=some p:=by simpa using a
   cases i with
   |zero=>
    simp only[YV,Yh]at h
    subst h
    have:=Tm b.1 a
    grind
   |succ i=>
    have:=OO b.2 (Nat.lt_of_succ_lt_succ c) (by simpa using h) a
    grind
theorem Oc{p:Oper}{k:Nat}(h:Bc p k=true)(b:∀e∈p.after,Region.binds .any e=true→e.on≠k):False:=by
 unfold Bc at h
 rw[YX]at h
 obtain⟨e,he,a⟩:=h
 simp only[Yc]at a
 exact b e (by simpa using he) a.1 (Ya a.2)
section
variable {P:Program} {l n:Nat} {B:Base} {H H':Hp} {ops:Array Oper} {ρ:Operand→AV}
theorem VX{o:Oper}{v:AV}(h:Ef o=true)(hs:PA H H')(a:qV P l H o ρ v):qV P l H' o ρ v:=by
 obtain⟨e,op,type,pos,after,guard⟩:=o
 cases op<;>simp only[Ef]at h<;>first|(cases h;done)|skip
 case move=>exact a
 case nilCheck=>
  simp only[qV,AG]at a⊢
  unfold FP at a⊢
  split at a
  ·rename_i k g off _
   obtain⟨b,c,d⟩:=hs k
   grind
  ·exact a
  ·grind
 case fieldAddr=>
  simp only[qV,AG]at a⊢
  unfold CJ at a⊢
  split at a
  ·exact a
  ·rename_i k g off o n _ _
   obtain⟨b,c,d⟩:=hs k
   grind
  ·grind
 case indexAddr=>
  simp only[qV,AG]at a⊢
  unfold B7 at a⊢
  split at a
  ·exact a
  ·rename_i k g off len _ n _ sz _ _ _
   obtain⟨b,c,d⟩:=hs k
   grind
  ·exact a
  ·rename_i k g off _ n _ _ _
   obtain⟨b,c,d⟩:=hs k
   grind
  ·grind
 case binOp=>
  simp only[qV,AG]at a⊢
  unfold BA at a⊢
  split at a
  ·exact a
  ·exact a
  ·grind
  ·exact a
  ·grind
  ·grind
theorem jy{o:Oper}{s:Nat→AV}{v:AV}(h:Ef o=true)(hs:PA H H')(a:YA P l H ops o s v):YA P l H' ops o s v:=by
 unfold YA at a⊢
 split at a
 ·exact VX h hs a
 ·split at a
  ·exact⟨fun e=>VX h hs (a.1 e),a.2⟩
  grind
def DS(P:Program)(l:Nat)(o:Oper)(s:Nat→AV)(H H':Hp):Prop:=match o.op with
 |.store t a x=>match ev s a,BJ (ev s x)with
  |.ptr k g off,some vs=>g=(H k).g∧(H k).live=true∧vs.length=P.cellsOf t∧vs≠[]∧off+vs.length≤(H k).cells.length∧(k.1=l+1∨vs.all (AV.low k.1)=true)∧
    H'=updH H k {H k with cells:=(H k).cells.take off++vs++(H k).cells.drop (off+vs.length) }
  |_,_=>False
 |_=>False
theorem gS{o:Oper}{s:Nat→AV}(h:DS P l o s H H'):PA H H':=by
 unfold DS at h
 split at h
 ·split at h
  ·obtain⟨_,_,_,_,_,_,rfl⟩:=h
   intro k
   unfold updH
   grind
  grind
 grind
theorem iH{o:Oper}{s:Nat→AV}{K:St→Prop}(hs:A9 o=true)(h:AW P l n o K ⟨s,H⟩):∃H',DS P l o s H H'∧K ⟨s,H'⟩:=by
 obtain⟨a,op,type,pos,after,guard⟩:=o
 cases op<;>simp only[A9]at hs<;>first|(cases hs;done)|skip
 cases a with
 |some d=>cases hs
 |none=>
  simp only[AW]at h
  simp only[DS]
  grind
theorem iO{o:Oper}{s:Nat→AV}{K:St→Prop}(hs:A9 o=true)(h:DS P l o s H H')(b:K ⟨s,H'⟩):AW P l n o K ⟨s,H⟩:=by
 obtain⟨a,op,type,pos,after,guard⟩:=o
 cases op<;>simp only[A9]at hs<;>first|(cases hs;done)|skip
 cases a with
 |some d=>cases hs
 |none=>
  simp only[DS]at h
  simp only[AW]
  grind
theorem fi{o:Oper}{s:Nat→AV}{d:Nat}{u:AV}(g:d∉o.looksAt ops)(h:DS P l o (upd s d u) H H'):DS P l o s H H':=by
 have b:∀x∈o.op.operands,ev (upd s d u) x=ev s x:=fun x hx=>by
  cases x with
  |tmp t=>
   have c:t≠d:=fun e=>g (by
    subst e
    exact Gb _ (List.mem_filterMap.2 ⟨.tmp t,by simpa using hx,rfl⟩))
   simp[ev,upd,c]
  |_=>rfl
 unfold DS at h⊢
 split at h
 ·rename_i t a x f
  rw[b a (by rw[f];simp[Op.operands]),b x (by rw[f];simp[Op.operands])]at h
  exact h
 grind
variable {fin:Bool} {X:St→Prop}
def CY(P:Program)(l n:Nat)(ops:Array Oper)(fin:Bool)(X:St→Prop)(i:Nat)(K:St→Prop)(σ:St):Prop:=
 match ops[i]? with
 |none=>K σ
 |some o=>(BK o=true∧∃d v,o.dst=some d∧d<n∧YA P l σ.H ops o σ.s v∧K ⟨upd σ.s d v,σ.H⟩)∨(A9 o=true∧∃H',DS P l o σ.s σ.H H'∧K ⟨σ.s,H'⟩)∨(fin=true∧i+1=ops.size∧X σ)
def GL(P:Program)(l n:Nat)(ops:Array Oper)(fin:Bool)(X:St→Prop)(Q:St→Prop):Nat→Array Bool→St→Prop
 |0,listed,σ=>Region.ready .any ops listed=[]∧Q σ
 |fuel+1,listed,σ=>(Region.ready .any ops listed=[]→Q σ)∧∀i∈Region.ready .any ops listed,CY P l n ops fin X i (GL P l n ops fin X Q fuel (listed.setIfInBounds i true)) σ
theorem di{i:Nat}{K g:St→Prop}{σ:St}(h:∀s,K s→g s)(b:CY P l n ops fin X i K σ):CY P l n ops fin X i g σ:=by
 unfold CY at*
 split
 ·rename_i e;rw[e]at b;exact h _ b
 ·rename_i o e
  rw[e]at b
  rcases b with⟨a,d,v,c,f,j,k⟩|⟨a,H',c,f⟩|a
  ·exact .inl ⟨a,d,v,c,f,j,h _ k⟩
  ·exact .inr (.inl ⟨a,H',c,h _ f⟩)
  ·exact .inr (.inr a)
theorem ge{i j:Nat}{c t:Oper}{d:Nat}{v:AV}(A:ops[j]?=some t)(a:c.dst=some d)(m:c.apart ops t=true)(p:A9 t=true→Ef c=true)(r:fin=true→j+1≠ops.size){K:St→Prop}{s:Nat→AV}
  (hy:YA P l H ops c s v) (h:CY P l n ops fin X j K ⟨upd s d v,H⟩):CY P l n ops fin X j (fun g=>YA P l g.H ops c g.s v∧K ⟨upd g.s d v,g.H⟩) ⟨s,H⟩:=by
 obtain⟨w,x,y⟩:=Oper.apart_spec m
 unfold CY at*
 simp only[A]at*
 rcases h with⟨b,e,u,he,o,f,k⟩|⟨b,H',f,k⟩|⟨b,z,_⟩
 ·refine .inl ⟨b,e,u,he,o,TY (w d a) f,fq (y e he) hy,?_⟩
  have q:d≠e:=fun e'=>x d a (e'▸he)
  rw[dW (Ne.symm q)]
  exact k
 ·exact .inr (.inl ⟨b,H',fi (w d a) f,jy (p b) (gS f) hy,k⟩)
 ·exact absurd z (r b)
theorem bL{Q:St→Prop}{i:Nat}{o:Oper}{d:Nat}{v:AV}(hi:ops[i]?=some o)(hq:BK o=true)(D:o.dst=some d)(L:d<n):
  ∀(fuel:Nat) (listed:Array Bool) (s:Nat→AV) (H:Hp),
   (∀j u,ops[j]?=some u→j≠i→listed.getD j true=false→(∀e∈u.after,Region.binds .any e=true→e.on≠i∧∀a,ops[e.on]?=some a→Bc a i=false)→¬Waits ops j i→o.apart ops u=true∧(A9 u=true→Ef o=true)∧(fin=true→j+1≠ops.size))→DC ops listed→
   (∀m a,ops[m]?=some a→Bc a i=true→listed.getD m true=false)→i∈Region.ready .any ops listed→YA P l H ops o s v→
   GL P l n ops fin X Q fuel (listed.setIfInBounds i true) ⟨upd s d v,H⟩→GL P l n ops fin X Q (fuel+1) listed ⟨s,H⟩:=by
 have w:∀{K:St→Prop} {s:Nat→AV} {H:Hp},YA P l H ops o s v→K ⟨upd s d v,H⟩→CY P l n ops fin X i K ⟨s,H⟩:=fun hy hK=>by
  unfold CY;simp only[hi];exact .inl ⟨hq,d,v,D,L,hy,hK⟩
 intro fuel
 induction fuel with
 |zero=>
  intro listed s H _ _ T t hy B
  refine⟨fun h=>(by rw[h]at t;cases t),fun j A=>?_⟩
  by_cases b:j=i
  ·subst b;exact w hy B
  ·have:=ready_mono A b
   rw[B.1]at this
   cases this
 |succ fuel ih=>
  intro listed s H f W T t hy B
  refine⟨fun h=>(by rw[h]at t;cases t),fun j A=>?_⟩
  by_cases b:j=i
  ·subst b;exact w hy B
  ·have c:=B.2 j (ready_mono A b)
   obtain⟨q,u,z,p⟩:=mem_ready.1 A
   have r:∀e∈u.after,Region.binds .any e=true→e.on≠i:=fun e he I heq=>by
    have c:=p e he I
    have C:=(mem_ready.1 t).1
    rw[heq]at c
    rcases Yw i listed.size with x|x
    ·simp[x]at C c;rw[C]at c;cases c
    ·simp[YS x]at c
   have y:∀e∈u.after,Region.binds .any e=true→e.on≠i∧∀a,ops[e.on]?=some a→Bc a i=false:=fun e he I=>⟨r e he I,fun a S=>by
    cases J:Bc a i with
    |false=>rfl
    |true=>
     have c:=p e he I
     have C:=T _ a S J
     rcases Yw e.on listed.size with x|x
     ·simp[x]at C c;rw[C]at c;cases c
     ·simp[YS x]at c⟩
   have M:=f j u z b q y (W.nowait A (mem_ready.1 t).1)
   have Z:=ge (i:=i) z D M.1 M.2.1 M.2.2 hy c
   have g:∀k ok,ops[k]?=some ok→k≠i→(listed.setIfInBounds j true).getD k true=false→
     (∀e∈ok.after,Region.binds .any e=true→e.on≠i∧∀a,ops[e.on]?=some a→Bc a i=false)→¬Waits ops k i→o.apart ops ok=true∧(A9 ok=true→Ef o=true)∧(fin=true→k+1≠ops.size):=fun k ok hk N G O R=>by
    refine f k ok hk N ?_ O R
    by_cases E:j=k
    ·subst E;exact q
    ·rw[getD_set_ne true E]at G;exact G
   have U:∀m a,ops[m]?=some a→Bc a i=true→(listed.setIfInBounds j true).getD m true=false:=fun m a hm J=>by
    by_cases F:j=m
    ·subst F
     rw[z]at hm
     cases hm
     exact(Oc J r).elim
    ·rw[getD_set_ne true F];exact T m a hm J
   refine di (fun Y V=>ih (listed.setIfInBounds j true) Y.s Y.H g (W.ready A) U (ready_mono t (Ne.symm b)) V.1 ?_) Z
   rw[QO _ _ b]
   exact V.2
theorem On{K K0:St→Prop}{m:Nat}(p:∀k (listed:Array Bool) (s:Nat→AV) (H:Hp),k+m=ops.size→(∀j,listed.getD j true=false→k≤j)→Region.lexFrom .any ops m k listed=true→K0 ⟨s,H⟩→GL P l n ops fin X K m listed ⟨s,H⟩)(w:fin=true→∀i,i+1<ops.size→Waits ops (ops.size-1) i)(z:∀i j N u,i<j→ops[i]?=some N→ops[j]?=some u→(A9 N=true→Bc u i=true)∧(A9 u=true→Ef N=true∨Jr ops.toList u i=true)∧Bc N j=false):
  ∀(rest:List Oper) (k:Nat) (listed:Array Bool) (s:Nat→AV) (H:Hp),rest.all (fun o=>BK o||A9 o)=true→(∀j,listed.getD j true=false→k≤j)→(∀j,k≤j→j<ops.size→listed.getD j true=false)→
  k+rest.length+m=ops.size→DC ops listed→(∀j,j<rest.length→rest[j]?=ops[k+j]?)→Region.lexFrom .any ops (rest.length+m) k listed=true→Ca P l n (ops.toList.map (·.dst)) rest K0 ⟨s,H⟩→GL P l n ops fin X K (rest.length+m) listed ⟨s,H⟩
 |[],k,listed,s,H,_,F,_,r,_,_,C,h=>by
  simp only[Fe,YL,Du]at C r⊢
  exact p k listed s H r F C h
 |o::rest,k,listed,s,H,hq,F,hk2,r,hD,hl,C,h=>by
  have M:ops[k]?=some o:=by simpa using(hl 0 (by simp)).symm
  rw[Y4,Nat.add_right_comm]at C⊢
  simp only[Region.lexFrom,Yc]at C
  obtain⟨⟨D,hf⟩,Q⟩:=C
  have D:k∈Region.ready .any ops listed:=by simpa using D
  simp only[E1,Yc,YD]at hq
  have V:∀j,(listed.setIfInBounds k true).getD j true=false→k+1≤j:=fun j E=>by
   by_cases g:k=j
   ·subst g
    exfalso
    rcases Yw k listed.size with L|L
    ·simp[L]at E
    grind
   ·rw[getD_set_ne true g]at E
    grind
  have G:∀j,k+1≤j→j<ops.size→(listed.setIfInBounds k true).getD j true=false:=fun j h1 h2=>by
   rw[getD_set_ne true (by omega)]
   grind
  have hu:∀m om,ops[m]?=some om→Bc om k=true→listed.getD m true=false:=fun m om hm ho=>by
   grind
  have Y:∀j,j<rest.length→rest[j]?=ops[k+1+j]?:=fun j E=>by have:=hl (j+1) (by simp;omega);simpa[Ys,J6 1 j]using this
  have next:∀s' H',Ca P l n (ops.toList.map (·.dst)) rest K0 ⟨s',H'⟩→GL P l n ops fin X K (rest.length+m) (listed.setIfInBounds k true) ⟨s',H'⟩:=fun s' H' L=>
   On p w z rest (k+1) _ s' H' (by simpa using hq.2) V G (by simp only[Y4]at r;omega) (hD.ready D) Y Q L
  by_cases a:A9 o=true
  ·
   have y:o.guard=none:=by
    cases y:o.guard with
    |none=>rfl
    |some _=>obtain⟨O,op,type,pos,after,guard⟩:=o;simp only at y;subst y;cases op<;>cases O<;>simp[A9]at a
   have J:AW P l n o (Ca P l n (ops.toList.map (·.dst)) rest K0) ⟨s,H⟩:=by
    unfold Ca at h
    simp only[y]at h
    unfold Dm at h
    split at h
    ·rename_i S;simp[A9,S]at a
    ·rename_i c S;simp[A9,S]at a
    ·exact h
   obtain⟨H',hS,hK⟩:=iH a J
   refine⟨fun h=>(by rw[h]at D;cases D),fun j E=>?_⟩
   by_cases g:j=k
   ·subst g
    unfold CY
    grind
   ·exfalso
    obtain⟨f,u,q,hall⟩:=mem_ready.1 E
    have W:=F j f
    have he:=(z k j o u (by omega) M q).1 a
    refine Oc he fun e he x heq=>?_
    grind
  ·have B:BK o=true:=by rcases hq.1 with h|h;exact h;exact absurd h a
   have hst:∃d v,o.dst=some d∧d<n∧YA P l H ops o s v∧Ca P l n (ops.toList.map (·.dst)) rest K0 ⟨upd s d v,H⟩:=by
    unfold Ca at h
    unfold YA
    cases y:o.guard with
    |none=>simp only[y]at h;exact SP B h
    |some gw=>
     obtain⟨i,b⟩:=gw
     simp only[y]at h⊢
     split at h
     ·rename_i t ht
      cases t with
      |true=>
       obtain⟨d,v,h1,h2,h3,h4⟩:=SP B (h.1 rfl)
       grind
      |false=>
       grind
     grind
   obtain⟨d,v,hd,T,hy,hK⟩:=hst
   refine bL M B hd T (rest.length+m) listed s H (fun j u q g f I Z=>⟨Region.free_spec M hf j u q g f (fun e he x=>(I e he x).1),fun hsj=>?_,fun U A=>Z (by have:=w U k (by have:=F j f;omega);rwa [←A,Nat.add_sub_cancel]at this)⟩) hD hu D hy (next _ _ hK)
   have W:=F j f
   rcases(z k j o u (by omega) M q).2.1 hsj with h|h
   ·exact h
   ·exfalso
    unfold Jr at h
    rw[YD]at h
    rcases h with h|h
    ·exact Oc h fun e he x=>(I e he x).1
    ·obtain⟨e,he,x⟩:=YX.1 h
     rw[Yc]at x
     obtain⟨hb1,R⟩:=x
     split at R
     ·grind
     grind
theorem aF{i:Nat}{σ:St}{a:Act}{w:World}{K:St→Prop}{q:Act→World→Prop}{f:Exit→Act→World→Prop}(r:R l n B σ a w)
  (h:∀σ a w,R l n B σ a w→K σ→q a w) (L:fin=true→i+1=ops.size→X σ→wpOp P ops f i q a w) (A:CY P l n ops fin X i K σ):wpOp P ops f i q a w:=by
 have z:=L
 obtain⟨s,H⟩:=σ
 unfold CY at A
 unfold wpOp
 split
 ·grind
 ·rename_i o G
  simp only[G]at A
  rcases A with⟨C,d,v,F,g,hy,E⟩|⟨k,H',y,E⟩|⟨T,U,V⟩
  rotate_left 2
  ·have:=z T U V
   unfold wpOp at this
   simpa only[G]using this
  ·have go:qV P l H o (ev s) v→o.wp P a w q f:=fun Q=>by
    have:=iy (B:=B) C F g Q a w r f
    refine Oper.wp_mono (fun I w' ⟨D,e,x⟩=>?_) this
    grind
   unfold YA at hy
   cases c:o.guard with
   |none=>
    simp only[c]at hy
    rw[Yj (by simp[Region.wanted,c])]
    grind
   |some J=>
    obtain⟨j,b⟩:=J
    simp only[c]at hy
    split at hy
    ·rename_i t O
     have p:(yielded ops a.tmps j==some b)=t:=by
      obtain⟨m,S,W,Y,M,y,N⟩:=r.un
      exact N0 y O
     cases t with
     |true=>
      rw[Yj (by simp only[Region.wanted,c];exact p)]
      grind
     |false=>
      rw[Yt (by simp only[Region.wanted,c,p];decide)]
      have:=hy.2 rfl
      subst this
      rw[F]
      exact h _ _ _ (R.undef r g) E
    grind
  ·have c:o.guard=none:=by
    cases c:o.guard with
    |none=>rfl
    |some _=>obtain⟨u,op,type,pos,after,guard⟩:=o;simp only at c;subst c;cases op<;>cases u<;>simp[A9]at k
   rw[Yj (by simp[Region.wanted,c])]
   refine .inl ?_
   have:=Gk (B:=B) (iO (n:=n) (K:=fun D=>D=⟨s,H'⟩) k y rfl) a w r f
   refine Oper.wp_mono (fun I w' ⟨D,e,x⟩=>?_) this
   grind
theorem RU{b:Exit→Act→World→Prop}{listed:Array Bool}(h:Region.ready .any ops listed=[]){a:Act}{w:World}(c:b .normal a w):∀fuel,wpAny P .any ops b fuel listed a w
 |0=>⟨h,c⟩
 |_+1=>⟨fun _=>c,fun i hi=>by rw[h]at hi;cases hi⟩
theorem Ns{Q:St→Prop}{m:Exit→Act→World→Prop}(q:∀σ a w,R l n B σ a w→Q σ→m .normal a w)(b:fin=true→∀i,i+1<ops.size→Waits ops (ops.size-1) i)(y:fin=true→∀σ a w,R l n B σ a w→X σ→∀o,ops[ops.size-1]?=some o→wpList P ops m [o] a w):
  ∀(fuel:Nat) (listed:Array Bool) (σ:St) (a:Act) (w:World),DC ops listed→R l n B σ a w→GL P l n ops fin X Q fuel listed σ→wpAny P .any ops m fuel listed a w
 |0,_,_,_,_,_,d,h=>⟨h.1,q _ _ _ d h.2⟩
 |fuel+1,listed,σ,a,w,x,d,h=>⟨fun u=>q _ _ _ d (h.1 u),fun i hi=>aF d (fun s' t w' r D=>Ns q b y fuel _ s' t w' (x.ready hi) r D) (fun C J H=>by
  obtain⟨u,o,A,z⟩:=mem_ready.1 hi
  have e:ops.size-1=i:=by omega
  have hw:=y C σ a w d H o (by rw[e];exact A)
  have g:Region.ready .any ops (listed.setIfInBounds i true)=[]:=by
   refine List.eq_nil_iff_forall_not_mem.2 fun j E=>?_
   obtain⟨k,I,s,_⟩:=mem_ready.1 E
   have F:j<ops.size:=(Yz.1 s).1
   by_cases f:i=j
   ·subst f
    rcases Yw i listed.size with p|p
    ·simp[p]at k
    ·simp[YS p]at k
   ·rw[getD_set_ne true f]at k
    have v:=b C j (by omega)
    rw[e]at v
    exact x.nowait hi k v
  unfold wpOp
  simp only[A]
  unfold wpList at hw
  split
  ·rename_i c
   rw[Yj c]at hw
   exact hw.imp (Oper.wp_mono fun t w' G=>RU g G _) id
  ·rename_i c
   rw[Yt c]at hw
   exact RU g hw _) (h.2 i hi)⟩
theorem DC.none(n:Nat):DC ops (Array.replicate n false):=fun m b _ h=>by
 rw[Yp]at h
 rcases Yw m n with a|a
 ·simp[a]at h
 ·simp[Nat.not_lt.2 a]at h
theorem bw{id:Nat}{ops:List Oper}{σ:St}{Q:Exit→St→Prop}(hm:P.follows .mixedOrders=true)(c:Region.lexB .any ops.toArray=true)(C:ops.all (fun o=>BK o||A9 o)=true)(hs:GS ops 0 ops=true)
  (h:Ca P l n (ops.map (·.dst)) ops (Q .normal) σ):A0 P l n B (.region id ops.toArray true) Q σ:=by
 intro a w x
 obtain⟨s,H⟩:=σ
 simp only[Region.lexB,Yc]at c
 have u:=On (P:=P) (l:=l) (n:=n) (ops:=ops.toArray) (K:=Q .normal) (K0:=Q .normal) (m:=0) (fin:=false) (X:=fun _=>False) (fun k listed s H _ _ c h=>⟨by simpa[Region.lexFrom]using c,h⟩) (fun e=>by cases e) (fun i j E F p hi z=>by
   have:=OO hs p (by simpa using hi) (by simpa using z)
   simpa using this) ops 0 (Array.replicate ops.toArray.size false) s H C (fun _ _=>YU _) (fun j _ h=>by simp at h;simp[h]) (by simp) (DC.none _) (by simp) (by simpa using c.2) (by simpa using h)
 have d:R l n B ⟨s,H⟩ a {w with drawn:=w.drawn+1 }:=by
  obtain⟨m,S,v,A,f,y,g⟩:=x.un
  obtain⟨r,t⟩:=v.drew (w':={w with drawn:=w.drawn+1 }) rfl rfl rfl rfl
  exact R.keep r A f y g t
 refine wp_region_any hm (Ns (Q:=Q .normal) (fin:=false) (X:=fun _=>False) (fun G D w' b q=>⟨_,q,b⟩) (fun e=>by cases e) (fun e=>by cases e) _ _ _ a _ (DC.none _) d (by simpa using u))
theorem bh{id:Nat}{L:List Oper}{o:Oper}{σ:St}{QQ:Exit→Act→World→Prop}{X:St→Prop}(hm:P.follows .mixedOrders=true)(c:Region.lexB .any (L++[o]).toArray=true)(J:L.all (fun o=>BK o||A9 o)=true)(hs:GS (L++[o]) 0 (L++[o])=true)
  (M:∀i,i<L.length→Waits (L++[o]).toArray L.length i) (h:Ca P l n ((L++[o]).map (·.dst)) L X σ) (G:∀σ a w,R l n B σ a w→X σ→wpList P (L++[o]).toArray QQ [o] a w) {a:Act} {w:World} (g:R l n B σ a w):(Code.region id (L++[o]).toArray true).wp P QQ a w:=by
 obtain⟨s,H⟩:=σ
 simp only[Region.lexB,Yc]at c
 have b:true=true→∀i,i+1<(L++[o]).toArray.size→Waits (L++[o]).toArray ((L++[o]).toArray.size-1) i:=fun _ i hi=>by
  have:=M i (by simpa using hi)
  simpa using this
 have D:=On (P:=P) (l:=l) (n:=n) (ops:=(L++[o]).toArray) (K:=fun _=>False) (K0:=X) (m:=1) (fin:=true) (X:=X) (fun k listed s H U hl c h=>by
   simp only[Region.lexFrom,Yc]at c
   have C:k∈Region.ready .any (L++[o]).toArray listed:=by simpa using c.1.1
   refine⟨fun f=>(by rw[f]at C;cases C),fun i hi=>?_⟩
   obtain⟨f,O,d,_⟩:=mem_ready.1 hi
   have y:=hl i f
   have z:i<(L++[o]).toArray.size:=(Yz.1 d).1
   unfold CY
   simp only[d]
   refine .inr (.inr ?_)
   exact And.intro (by first|rfl|trivial) (And.intro (by omega) h)) b (fun i j O V t hi u=>by
   have:=OO hs t (by simpa using hi) (by simpa using u)
   simpa using this) L 0 (Array.replicate (L++[o]).toArray.size false) s H J (fun _ _=>YU _) (fun j _ h=>by simp at h;simp[h]) (by simp) (DC.none _) (fun j u=>by simp[Yn u]) (by simpa using c.2) (by simpa using h)
 have p:R l n B ⟨s,H⟩ a {w with drawn:=w.drawn+1 }:=by
  obtain⟨m,S,E,I,q,F,r⟩:=g.un
  obtain⟨y,z⟩:=E.drew (w':={w with drawn:=w.drawn+1 }) rfl rfl rfl rfl
  exact R.keep y I q F r z
 refine wp_region_any hm (Ns (Q:=fun _=>False) (fin:=true) (X:=X) (fun W T w' A x=>x.elim) b (fun _ σ a w g hx N v=>?_) _ _ _ a _ (DC.none _) p (by simpa using D))
 have e:N=o:=by simpa using v.symm
 subst e
 exact G σ a w g hx
end
end Go.Eng
namespace Go.Eng
set_option linter.all false
open Go Go.RowKit
section
variable {P:Program} {T:Nat→Option TI} {r:Ren} {H H':Hp} {g:Option Bool} {a:AT} {K:AV→AT→Prop}
def KR(r:Ren)(K:AV→AT→Prop)(y:AV):Prop:=∃v a,y=ren r v∧K v a
theorem KR.mk{v:AV}{a:AT}(h:K v a):KR r K (ren r v):=⟨v,a,rfl,h⟩
theorem KR.mk'{v y:AV}{a:AT}(h:K v a)(e:y=ren r v):KR r K y:=⟨v,a,e,h⟩
theorem Uc{t:TypeId}{i:TI}(hi:TIok P t i)(h:(i.str||i.elm.isSome)=true):F3 P t=true:=by
 rw[YD]at h
 unfold F3
 rcases h with h|h
 ·have:=hi.str h
  unfold FH at this
  split at this
  ·rename_i a _;rw[a]
  ·cases this
 ·obtain⟨e,he⟩:=YM.1 h
  obtain⟨b,c⟩:=e
  have:=(CN (hi.elm _ he)).1
  rw[this]
theorem NJ{t:TypeId}{i:TI}(hi:TIok P t i)(y:B3 r H H')(p:∀b,g=some b→b=true){x:AV}(h:HE i H x g a K):CA P H' t (ren r x) (KR r K):=by
 unfold HE at h
 cases x<;>simp only at h<;>try exact h.elim
 case iptr cs off=>
  simp only[ren,CA,hi.agg,hi.siz]
  split at h
  ·rename_i he
   rw[he]
   split at h
   ·rename_i c d f
    obtain⟨m,n⟩:=Ol _ _ _ f
    have d:=Yd d
    rw[El]at n
    exact⟨by omega,by omega,.mk' h (by rw[m,ren,Fp])⟩
   grind
  ·rename_i he
   rw[he]
   rw[Bi]at h
   simp only
   split at h
   ·rename_i c o;simp only[o];exact .mk' h rfl
   grind
 case ptr k q off=>
  simp only[ren,CA,hi.agg,hi.siz]
  split at h
  ·rename_i hl
   obtain⟨s,u,z,A,v⟩:=y.at hl
   refine⟨s,u,?_⟩
   rw[v]
   split at h
   ·split at h
    ·rename_i he
     rw[he]
     split at h
     ·rename_i c d f
      obtain⟨m,n⟩:=Ol _ _ _ f
      have d:=Yd d
      rw[El]at n
      exact⟨by omega,by rw[Bw];omega,.mk' h (by rw[ren,CM,C7,m])⟩
     grind
    ·rename_i he
     rw[he]
     rw[Bi]at h
     split at h
     ·rename_i c o;simp only[Ex,o,YQ];exact .mk' h rfl
     grind
   ·split at h
    ·rename_i he
     rw[he]
     split at h
     ·rename_i c B d f
      have d:=Yd d
      have f:=Ya f
      have j:DX _ _ _:=AU p h.1
      unfold DX at j
      rw[f]at j
      have w:=congrArg List.length j
      rw[Y9,El]at w
      exact⟨by omega,by rw[Bw];omega,.mk' h.2 (by rw[ren,CM,C7,j])⟩
     grind
    ·rename_i he
     rw[he]
     split at h
     ·rename_i x
      have j:DX _ _ _:=AU p h.1
      unfold DX at j
      have e:(H k).cells[off]?=some x:=by
       have:=congrArg (fun l=>l[0]?) j
       grind
      simp only[Ex,e,YQ]
      exact .mk' h.2 rfl
     grind
   grind
  ·grind
theorem KU{t:TypeId}{i:TI}(hi:TIok P t i){f:Nat}{x:Nat×Nat×Bool}(h:AR i.fld f=some x):fld P t f=some (x.1,x.2.1)∧HK P t f=some x:=by
 rw[Bi]at h;exact hi.fld f x h
theorem Zy{t:TypeId}{i:TI}(hi:TIok P t i)(j:B3 r H H'){f:Nat}{x:AV}(h:Ki i H f x a K):CJ P H' t f (ren r x) (KR r K):=by
 unfold Ki at h
 split at h
 ·rename_i o n b k
  have e:=(KU hi k).1
  split at h
  ·rename_i c
   have c:=Yd c
   unfold CJ
   rw[e]
   split at h
   ·simp only[ren];exact⟨by omega,.mk' h rfl⟩
   ·split at h
    ·rename_i hl
     obtain⟨d,g,_⟩:=j.at hl
     simp only[ren];exact⟨by omega,d,g,.mk' h rfl⟩
    grind
   grind
  grind
 grind
theorem ac{t:TypeId}{i:TI}(hi:TIok P t i){f:Nat}{x:AV}(h:KW i f x a K):CP P t f (ren r x) (KR r K):=by
 unfold KW at h
 rw[cE]
 split at h
 ·rename_i o n cs b
  rw[(KU hi b).2]
  split at h
  ·rename_i d
   have d:=Yd d
   simp only[ren,Jw]
   exact⟨by omega,.mk' h (by rw[ren,CM,C7])⟩
  grind
 ·rename_i o n cs b
  rw[(KU hi b).2]
  rw[Bi]at h
  split at h
  ·rename_i c e
   simp only[ren,Jw,Ex,e,YQ]
   exact .mk' h rfl
  grind
 grind
theorem TD{t:TypeId}{q:Nat×Nat}(h:Dn P t=some q):elm P t=none:=by
 unfold Dn at h
 unfold elm
 split at h
 ·rename_i a;rw[a]
 ·cases h
theorem Zv{t:TypeId}{i:TI}(hi:TIok P t i)(w:B3 r H H')(y:∀b,g=some b→b=true){x j:AV}(h:Kk i H x j g a K):B7 P H' t (ren r x) (ren r j) (KR r K):=by
 unfold Kk at h
 split at h
 ·rename_i e sz k n he
  have he:=hi.elm _ he
  split at h
  ·rename_i B e' q
   split at h
   ·rename_i c d
    have c:=Ya c
    have d:=Yd d
    obtain⟨s,u⟩:FC _ _ _:=AU y h.1
    simp only[ren,B7,he]
    refine⟨s,?_⟩
    rw[u]
    exact⟨c,by omega,.mk' h.2 rfl⟩
   grind
  ·rename_i k q off len o E
   split at h
   ·rename_i hl c d
    have c:=Ya c
    have d:=Yd d
    obtain⟨l,p,C,z,D⟩:=w.at hl
    obtain⟨s,u,A⟩:HJ _ _ _ _ _:=AU y h.1
    simp only[ren,B7,he]
    exact⟨s,u,l,p,by rw[z,c],by omega,.mk' h.2 (by rw[ren,A])⟩
   grind
  grind
 ·rename_i k n he
  split at h
  ·rename_i m sz cs off v
   split at h
   ·rename_i c d
    have c:=Yd c
    have d:=Yd d
    have f:=hi.arr.trans v
    simp only[ren,B7,TD f,f]
    exact⟨Int.natCast_nonneg n,by show(n:Int)<m;omega,by omega,.mk' h rfl⟩
   grind
  ·rename_i m sz k q off v
   split at h
   ·rename_i hl c d
    have c:=Yd c
    have d:=Yd d
    have f:=hi.arr.trans v
    obtain⟨l,p,_⟩:=w.at hl
    simp only[ren,B7,TD f,f]
    exact⟨Int.natCast_nonneg n,by show(n:Int)<m;omega,by omega,l,p,.mk' h rfl⟩
   grind
  grind
 grind
theorem Z9{t:TypeId}{i:TI}(hi:TIok P t i)(m:∀b,g=some b→b=true){x j:AV}(h:K2 i x j g a K):Dd P t (ren r x) (ren r j) (KR r K):=by
 unfold K2 at h
 split at h
 ·rename_i s k n b q
  split at h
  ·rename_i d
   have d:=Ya d
   obtain⟨e,c,f,l⟩:Xc _ _ _:=AU m h.1
   simp only[ren,Dd]
   refine⟨by rw[hi.kin];exact d,e,?_⟩
   rw[f]
   exact .mk' h.2 (by rw[ren,l])
  grind
 grind
theorem bu{op:BinOp}{k:IntKind}{x y:Int}(c:∀b,g=some b→b=true)(h:LH op k x y g a K):DL op k x y (KR r K):=by
 unfold LH at h
 cases op<;>simp only at h<;>try exact h.elim
 all_goals simp only[DL]
 case eql=>exact .mk' h rfl
 case neq=>exact .mk' h rfl
 case lss=>exact .mk' h rfl
 case leq=>exact .mk' h rfl
 case gtr=>exact .mk' h rfl
 case geq=>exact .mk' h rfl
 case add|sub|mul=>
  split at h
  ·have e:Bp _ _ _:=AU c h.1
   unfold Bp at e
   rw[e];exact .mk' h.2 rfl
  ·grind
 case and|or|xor=>
  split at h
  ·have e:AZ _ _:=AU c h.1
   unfold AZ at e
   rw[e];exact .mk' h.2 rfl
  ·grind
 case quo=>
  split at h
  ·have e:Bp _ _ _:=AU c h.2.1
   unfold Bp at e
   rw[e];exact⟨AU c h.1,.mk' h.2.2 rfl⟩
  ·grind
 case rem=>
  split at h
  ·have e:AZ _ _:=AU c h.2.1
   unfold AZ at e
   rw[e];exact⟨AU c h.1,.mk' h.2.2 rfl⟩
  ·grind
 case shr=>
  split at h
  ·have e:AZ _ _:=AU c h.2.1
   unfold AZ at e
   rw[e];exact⟨AU c h.1,.mk' h.2.2 rfl⟩
  ·grind
 case shl=>
  split at h
  ·have e:Bp _ _ _:=AU c h.2.1
   unfold Bp at e
   rw[e];exact⟨AU c h.1,.mk' h.2.2 rfl⟩
  ·grind
theorem bd{op:BinOp}{x y:ByteArray}(c:∀b,g=some b→b=true)(h:L6 op x y g a K):DK op x y (KR r K):=by
 unfold L6 at h
 cases op<;>simp only at h<;>try exact h.elim
 all_goals simp only[DK]
 case add=>exact⟨AU c h.1,.mk' h.2 rfl⟩
 all_goals exact .mk' h rfl
theorem RZ{neg:Bool}{x:AV}(i:B3 r H H')(h:HV H neg x a K):Cb H' neg (ren r x) (KR r K):=by
 unfold HV at h
 split at h
 ·simp only[ren,Cb];exact fun b=>.mk' (h b) rfl
 ·rename_i c
  cases c with
  |nil=>simp only[ren,Cb];exact fun b=>.mk' (h b (fun e=>absurd rfl e)) rfl
  |cons e c=>simp only[ren,Cb];exact .mk' (h neg (fun _=>rfl)) rfl
 ·rename_i k q off n
  split at h
  ·rename_i hl
   obtain⟨f,g,_⟩:=i.at hl
   simp only[ren,Cb]
   exact⟨⟨f,g⟩,fun d=>.mk' (h neg (fun _=>rfl)) rfl,fun d b=>.mk' (h b (fun e=>absurd d e)) rfl⟩
  grind
 grind
theorem Sx:∀(ks:List Nat) (xs ys:List AV) (b:Bool),Cy ks xs ys=some b→Cy ks (Ae r xs) (Ae r ys)=some b
 |[],[],[],b,h=>by simpa[Ae]using h
 |k::ks,x::xs,y::ys,b,h=>by
  cases x<;>cases y<;>simp only[Cy]at h<;>try (cases h;done)
  rename_i x y
  simp only[Ae,ren,Cy]
  split at h
  ·rename_i d e a c
   simp only[a,Sx ks xs ys _ c]
   exact h
  ·cases h
 |[],[],_::_,b,h=>by simp[Cy]at h
 |[],_::_,_,b,h=>by simp[Cy]at h
 |_::_,[],_,b,h=>by simp[Cy]at h
 |_::_,x::_,[],b,h=>by cases x<;>simp[Cy]at h
theorem e9{H:Hp}{op:BinOp}{t:TypeId}{a:Bool}{x:AV}{K:AV→Prop}:BA P H op t a x .e0 K=(a=true∧kin P t=4∧match op with|.eql=>Cb H false x K|.neq=>Cb H true x K|_=>False):=by
 unfold BA
 grind
theorem bU{t:TypeId}{i:TI}(hi:TIok P t i)(e:B3 r H H')(f:∀b,g=some b→b=true){op:BinOp}{j:Bool}{x y:AV}(h:LG i H op j x y g a K):BA P H' op t j (ren r x) (ren r y) (KR r K):=by
 unfold LG at h
 split at h
 ·split at h
  ·rename_i c
   simp only[ren,BA]
   exact⟨io c,bu f h⟩
  grind
 ·simp only[ren,BA];exact bd f h
 ·split at h
  ·rename_i c
   simp only[ren,BA]
   refine⟨by rw[hi.kin];exact Ya c,?_⟩
   split at h
   ·exact .mk' h rfl
   ·exact .mk' h rfl
   grind
  grind
 ·rename_i xs ys
  split at h
  ·rename_i ks d
   split at h
   ·rename_i b l
    simp only[ren,BA,D7,hi.eqt _ d,Sx _ _ _ _ l]
    split at h
    ·exact .mk' h rfl
    ·exact .mk' h rfl
    grind
   grind
  grind
 ·rw[show ren r .e0=.e0 from by simp[ren],e9]
  split at h
  ·rename_i m k
   refine⟨rfl,by rw[hi.kin];exact Ya k,?_⟩
   split at h
   ·exact RZ e h
   ·exact RZ e h
   grind
  grind
 grind
theorem dF{op:UnOp}{x:AV}(c:∀b,g=some b→b=true)(h:Mp op x g a K):CG op (ren r x) (KR r K):=by
 unfold Mp at h
 split at h
 ·simp only[ren,CG];exact .mk' h rfl
 ·split at h
  ·have e:Bp _ _ _:=AU c h.1
   unfold Bp at e
   simp only[ren,CG]
   rw[e];exact .mk' h.2 rfl
  grind
 ·split at h
  ·have e:AZ _ _:=AU c h.1
   unfold AZ at e
   simp only[ren,CG]
   rw[e];exact .mk' h.2 rfl
  grind
 grind
theorem aJ{s d:TypeId}{i j:TI}(hi:TIok P s i)(k:TIok P d j){x:AV}(l:∀b,g=some b→b=true)(h:Lc i j x g a K):CQ P s d (ren r x) (KR r K):=by
 unfold Lc at h
 split at h
 ·split at h
  ·rename_i q n p k' o m t c f
   have e:Bp _ _ _:=AU l h.1
   unfold Bp at e
   simp only[ren,CQ,hi.ik _ c,k.ik _ f]
   rw[e];exact .mk' h.2 rfl
  grind
 ·split at h
  ·rename_i c f
   simp only[ren,CQ,Ew (by rw[hi.kin];exact Ya c),Ew (by rw[k.kin];exact Ya f)]
   exact .mk' h rfl
  grind
 grind
theorem Hv{d l:Nat}{o a:Option AV}(h:Cg d o l)(b:a=o.map (ren r)):Co d a=some l:=by
 subst b
 unfold Cg at h
 split at h
 ·simp[Co,h]
 ·subst h
  simp[Co,ren]
 grind
theorem aj{t:TypeId}{i:TI}(hi:TIok P t i)(B:B3 r H H')(c:∀b,g=some b→b=true){x:AV}{lo q:Option AV}{v:Bool}(h:K5 i H x lo q v g a K):
  Cv P H' t (ren r x) (lo.map (ren r)) (q.map (ren r)) v (KR r K):=by
 unfold K5 at h
 split at h
 ·split at h
  ·split at h
   ·rename_i C
    obtain⟨m,n,o,p⟩:=h
    have f:=Hv (r:=r) (AU c m) rfl
    have j:=Hv (r:=r) (AU c n) rfl
    have d:Ds _ _ _:=AU c o
    simp only[ren,Cv,f,j]
    exact⟨by rw[hi.kin];exact Ya C,trivial,d.1,d.2,.mk' p rfl⟩
   grind
  ·split at h
   ·rename_i e sz w D he
    split at h
    ·rename_i l
     have l:=Yd l
     obtain⟨m,n,o,p,u⟩:=h
     have f:=Hv (r:=r) (AU c m) rfl
     have j:=Hv (r:=r) (AU c n) rfl
     have d:Ds _ _ _:=AU c o
     have k:JQ _ _ _ _ _:=AU c p
     simp only[ren,Cv,f,j,hi.elm _ he]
     exact⟨trivial,by omega,k.1,d.1,d.2,.mk' u (by rw[ren,k.2])⟩
    grind
   grind
  ·split at h
   ·rename_i e sz I G D he hl
    split at h
    ·rename_i l s
     have l:=Yd l
     obtain⟨y,z,E,A,F⟩:=B.at hl
     obtain⟨m,n,o,p,u⟩:=h
     have f:=Hv (r:=r) (AU c m) rfl
     have j:=Hv (r:=r) (AU c n) rfl
     have d:Ds _ _ _:=AU c o
     have k:MK _ _ _ _ _:=AU c p
     simp only[ren,Cv,f,j,hi.elm _ he]
     exact⟨trivial,y,z,by omega,by rw[A];exact Ya s,d.1,d.2,.mk' u (by rw[ren,k.1,k.2])⟩
    grind
   grind
  grind
 grind
theorem aW{t:TypeId}{i:TI}(hi:TIok P t i)(k:B3 r H H')(d:∀b,g=some b→b=true){x:AV}(h:LB i H x g a K):B9 P H' t (ren r x) (KR r K):=by
 unfold LB at h
 split at h
 ·split at h
  ·rename_i c
   have e:AZ _ _:=AU d h.1
   unfold AZ at e
   simp only[ren,B9,hi.kin]
   exact⟨Ya c,.mk' h.2 (by rw[ren,e])⟩
  grind
 ·split at h
  ·rename_i c
   have e:AZ _ _:=AU d h.1
   unfold AZ at e
   simp only[ren,B9,hi.kin]
   exact⟨Ya c,.mk' h.2 (by rw[ren,e])⟩
  grind
 ·split at h
  ·rename_i c
   have e:AZ _ _:=AU d h.1
   unfold AZ at e
   simp only[ren,B9,hi.kin]
   exact⟨Ya c,.mk' h.2 (by rw[ren,e])⟩
  grind
 ·split at h
  ·rename_i c hl
   have e:AZ _ _:=AU d h.1
   unfold AZ at e
   obtain⟨f,j,_⟩:=k.at hl
   simp only[ren,B9,hi.kin]
   exact⟨Ya c,f,j,.mk' h.2 (by rw[ren,e])⟩
  grind
 grind
theorem bR(a:B3 r H H'){x:AV}{y:Bool×List (List D)}(h:O1 H x=some y):Hw H' (ren r x)=some y:=by
 unfold O1 at h
 split at h
 ·simp only[ren,Hw];exact h
 ·split at h
  ·rename_i k g _ _ q b hl he
   obtain⟨c,d,e,_,_⟩:=a.at hl
   simp only[ren,Hw]
   grind
  ·cases h
 ·cases h
theorem TK(q:Bool)(ds:List D):ren r (H6 q ds)=H6 q ds:=by
 unfold H6
 split<;>simp[ren,Fp]
theorem gK(a q:Bool)(ds:List D)(ok:Bool):ren r (H5 a q ds ok)=H5 a q ds ok:=by
 unfold H5
 cases a
 ·exact TK q ds
 ·simp only[ren,Ae,TK]
theorem aE{t:TypeId}{i:TI}(hi:TIok P t i)(k:B3 r H H')(l:∀b,g=some b→b=true){x y:AV}{c:Bool}(h:Li i H x y c g a K):DI P H' t (ren r x) (ren r y) c (KR r K):=by
 unfold Li at h
 split at h
 ·rename_i q z p o s ok vs n f j
  split at h
  ·rename_i m
   obtain⟨d,e⟩:U1 _ _ _ _ _:=AU l h.1
   simp only[DI,hi.mp _ f,bR k j,ren]
   exact⟨iE m,.mk' h.2 (by rw[d,e,gK])⟩
  grind
 grind
theorem IL{x:AV}{vs:List AV}(h:BJ x=some vs)(hx:∀f xs ys,x≠.fn (.yield f) xs ys):BJ (ren r x)=some (Ae r vs):=by
 cases x<;>simp only[BJ,Yh]at h<;>try (cases h;done)
 case fn f xs ys=>
  subst h
  cases f with
  |yield i=>exact absurd rfl (hx i xs ys)
  |_=>simp[ren,Ae,BJ]
 all_goals(subst h;simp[ren,Ae,BJ])
theorem IU{x:AV}(h:FO x=true):∀f xs ys,x≠.fn (.yield f) xs ys:=by
 rintro f xs ys rfl;cases h
theorem is{t:TypeId}{i:TI}(hi:TIok P t i){f o n:Nat}(h:PZ i f=some (o,n)):F4 P t f=some (o,n):=by
 unfold PZ at h
 unfold F4
 rw[hi.arr]
 split at h
 ·rename_i m sz a
  rw[a]
  exact h
 ·rename_i a
  rw[a]
  split at h
  ·rename_i e d b c
   simp only[Yh,DU]at h
   obtain⟨rfl,rfl⟩:=h
   exact(KU hi c).1
  ·cases h
theorem R3{t:TypeId}{i:TI}(hi:TIok P t i):∀(ps:List (Nat×AV)) (z cs:List AV),(∀p∈ps,FO p.2=true)→Je i z ps=some cs→Bt (F4 P t) (Ae r z) (ps.map fun p=>(p.1,ren r p.2))=some (Ae r cs)
 |[],z,cs,_,h=>by
  simp only[Je,Yh]at h
  subst h
  simp[Bt]
 |(f,v)::ps,z,cs,e,h=>by
  simp only[Je]at h
  split at h
  ·rename_i off size vs a g
   split at h
   ·rename_i c d
    have c:=Ya c
    have d:=Yd d
    have b:=IL (r:=r) g (IU (e (f,v) (YF ..)))
    simp only[Y3,Bt,is hi a,b,Bw]
    rw[Yt (by omega)]
    have:=R3 hi ps _ cs (fun p a=>e p (Yy _ a)) h
    rw[←this]
    simp only[DW,C7,CM]
   ·cases h
  ·cases h
theorem aw{t:TypeId}{i:TI}(hi:TIok P t i){parts:List (Nat×AV)}(e:∀p∈parts,FO p.2=true)(f:∀z,i.zer=some z→Ae r z=z)(h:K3 i parts a K):
  Dc P t (parts.map fun p=>(p.1,ren r p.2)) (KR r K):=by
 unfold K3 at h
 split at h
 ·rename_i z b c
  split at h
  ·rename_i cs d
   have:=R3 (r:=r) hi _ _ _ e d
   unfold Dc
   rw[hi.zer _ c]
   rw[f z c]at this
   simp only[this]
   refine⟨?_,.mk' h rfl⟩
   rw[YD]at b⊢
   rcases b with b|b
   ·exact .inl (hi.str b)
   ·refine .inr ?_
    unfold LQ
    rw[hi.arr]
    exact b
  grind
 grind
theorem dI{x:AV}(h:x.flat=true):ren r x=x:=by cases x<;>first|(simp[ren];done)|cases h
theorem Gj{z:List AV}(h:z.all AV.flat=true):Ae r z=z:=by
 induction z with
 |nil=>simp[Ae]
 |cons x z a=>
  simp only[E1,Yc]at h
  rw[Ae,dI h.1,a h.2]
theorem RC{c x y:Operand}{ρ d:Operand→AV}{t:Bool}(e:ρ c=.d (.bool t))(b:d c=ren r (ρ c))(hx:t=true→d x=ren r (ρ x))(hy:t=false→d y=ren r (ρ y))(h:tV T H (.pick c x y) ρ g a K):
  AG P H' (.pick c x y) d (KR r K):=by
 simp only[tV,e]at h
 rw[e]at b
 simp only[ren]at b
 simp only[AG,b]
 rw[eG]at h
 cases t
 ·exact .mk' h (by simp[hy rfl])
 ·exact .mk' h (by simp[hx rfl])
theorem OC{ρ a:Operand→AV}{xs:List Operand}(h:∀x∈xs,a x=ren r (ρ x)):xs.map a=Ae r (xs.map ρ):=by
 rw[C9,Ep]
 exact Y1 h
theorem SG{ρ a:Operand→AV}{o:Option Operand}(h:∀x,o=some x→a x=ren r (ρ x)):o.map a=(o.map ρ).map (ren r):=by
 cases o with
 |none=>rfl
 |some x=>simp[h x rfl]
theorem Sf{r:Ren}{b:Bool}{x y:AV}{a:AT}{K:AV→AT→Prop}(h:Cr b x y (fun v=>K v a)):Cr b (ren r x) (ren r y) (KR r K):=by
 unfold Cr at h
 split at h
 ·simp only[ren,Cr];exact .mk' h rfl
 grind
theorem ei(n:AJ P T)(E:B3 r H H')(A:∀b,g=some b→b=true){op:Op}{ρ w:Operand→AV}(Y:∀x∈op.operands,w x=ren r (ρ x))(h:tV T H op ρ g a K):AG P H' op w (KR r K):=by
 have get:∀{x:Operand},x∈op.operands→w x=ren r (ρ x):=fun hx=>Y _ hx
 cases op<;>simp only[tV]at h<;>try exact h.elim
 case move x=>exact .mk' h (get (by simp[Op.operands]))
 case assign x=>exact .mk' h (get (by simp[Op.operands]))
 case pick c x y=>
  split at h
  ·rename_i t l
   exact RC (a:=a) (g:=g) (T:=T) (H:=H) l (get (by simp[Op.operands])) (fun _=>get (by simp[Op.operands])) (fun _=>get (by simp[Op.operands])) (by simp only[tV,l];exact h)
  ·grind
 case load t x=>
  split at h
  ·rename_i i hi;simp only[AG];rw[get (x:=x) (by simp[Op.operands])];exact NJ (n _ _ hi) E A h
  ·grind
 case fieldAddr t x f=>
  split at h
  ·rename_i i hi;simp only[AG];rw[get (x:=x) (by simp[Op.operands])];exact Zy (n _ _ hi) E h
  ·grind
 case field t x f=>
  split at h
  ·rename_i i hi;simp only[AG];rw[get (x:=x) (by simp[Op.operands])];exact ac (n _ _ hi) h
  ·grind
 case indexAddr t x j=>
  split at h
  ·rename_i i hi;simp only[AG];rw[get (x:=x) (by simp[Op.operands]),get (x:=j) (by simp[Op.operands])];exact Zv (n _ _ hi) E A h
  ·grind
 case index t x j=>
  split at h
  ·rename_i i hi;simp only[AG];rw[get (x:=x) (by simp[Op.operands]),get (x:=j) (by simp[Op.operands])];exact Z9 (n _ _ hi) A h
  ·grind
 case makeInterface t x=>
  split at h
  case h_2=>exact h.elim
  rename_i i hi
  have F:(i.str||i.elm.isSome)=true→F3 P t=true:=Uc (n _ _ hi)
  simp only[AG]
  rw[get (x:=x) (by simp[Op.operands])]
  split at h
  ·rename_i xs D hx
   rw[hx]
   simp only[ren]
   split at h
   case h_2=>exact h.elim
   rename_i ds Q
   have e:=KM Q
   subst e
   rw[Fp,Q]
   exact⟨F D,.mk' h rfl⟩
  ·rename_i y D hx
   rw[hx]
   simp only[ren]
   exact⟨F D,.mk' h rfl⟩
  ·exact h.elim
 case typeAssert x u t ok=>
  split at h
  case h_2=>exact h.elim
  rename_i i hi
  have F:(i.str||i.elm.isSome)=true→F3 P t=true:=Uc (n _ _ hi)
  simp only[AG]
  rw[get (x:=x) (by simp[Op.operands])]
  split at h
  case h_3=>exact h.elim
  case h_2 D hx=>
   rw[hx]
   simp only[ren]
   split at h
   case h_2=>exact h.elim
   rename_i B
   refine⟨F D,?_,rfl,.mk' h (by simp only[ren,Ae])⟩
   obtain⟨z,B⟩:=YM.1 B
   rw[(n _ _ hi).zer _ B]
   rfl
  rename_i u ds q D hx
  rw[hx]
  simp only[ren]
  split at h
  case h_3=>exact h.elim
  case h_2 y O G=>
   rw[G,O]
   split at h
   case h_2=>exact h.elim
   rename_i B
   refine⟨F D,?_,rfl,.mk' h (by simp only[ren,Ae])⟩
   obtain⟨z,B⟩:=YM.1 B
   rw[(n _ _ hi).zer _ B]
   rfl
  rename_i v O G
  rw[G,O]
  have I:ren r v=v:=by
   cases q with
   |true=>cases G;simp only[ren,Fp]
   |false=>
    match ds,G with
    |[d],G=>cases G;simp only[ren]
  refine⟨F D,.mk' h ?_⟩
  cases ok with
  |true=>simp only[cond,ren,Ae,I]
  |false=>exact I.symm
 case extract x j=>
  simp only[AG]
  rw[get (x:=x) (by simp[Op.operands])]
  split at h
  ·rename_i vs hx
   rw[hx]
   simp only[ren,Ex]
   rw[Bi]at h
   split at h
   ·rename_i y hy;rw[hy];exact .mk' h rfl
   grind
  ·grind
 case binOp o t x y u=>
  split at h
  ·rename_i i hi;simp only[AG];rw[get (x:=x) (by simp[Op.operands]),get (x:=y) (by simp[Op.operands])];exact bU (n _ _ hi) E A h
  ·grind
 case unOp o t x=>simp only[AG];rw[get (x:=x) (by simp[Op.operands])];exact dF A h
 case nilCheck x=>
  split at h
  ·rename_i k q off hx
   split at h
   ·rename_i hl
    simp only[AG]
    rw[get (x:=x) (by simp[Op.operands]),hx]
    obtain⟨g1,R,_,_,_⟩:=E.at hl
    simp only[ren,FP]
    exact⟨g1.symm▸rfl,R,.mk' h (by simp[ren])⟩
   grind
  ·rename_i cs off hx
   simp only[AG]
   rw[get (x:=x) (by simp[Op.operands]),hx]
   simp only[ren,FP]
   exact .mk' h (by simp[ren])
  ·grind
 case convert s d x=>
  split at h
  ·rename_i i j hi W;simp only[AG];rw[get (x:=x) (by simp[Op.operands])];exact aJ (n _ _ hi) (n _ _ W) A h
  ·grind
 case makeFunc fn first C=>
  have m:first.toList.map w=Ae r (first.toList.map ρ):=OC fun x hx=>get (by simp only[Op.operands,Im];exact .inl (by simpa using hx))
  have J:C.toList.map w=Ae r (C.toList.map ρ):=OC fun x hx=>get (by simp only[Op.operands,Im];exact .inr (by simpa using hx))
  simp only[AG]
  rw[m,J]
  split at h
  ·grind
  ·rename_i M
   refine .mk' h ?_
   cases fn<;>first|exact absurd rfl (M _)|simp[ren]
 case slice t x lo hi mx=>
  split at h
  ·rename_i i L
   simp only[AG]
   rw[get (x:=x) (by simp[Op.operands]),SG (o:=lo) (fun y hy=>get (by subst hy;simp[Op.operands])),SG (o:=hi) (fun y hy=>get (by subst hy;simp[Op.operands]))]
   exact aj (n _ _ L) E A h
  ·grind
 case build t parts=>
  split at h
  ·rename_i i hi F
   simp only[AG]
   have e:(parts.toList.map fun p=>(p.1,w p.2))=(parts.toList.map fun p=>(p.1,ρ p.2)).map fun p=>(p.1,ren r p.2):=by
    rw[Ep]
    refine Y1 fun p N=>?_
    simp only[Function.comp]
    rw[get (x:=p.2) (by simp only[Op.operands,In,YO];exact⟨p,N,rfl⟩)]
   rw[e]
   refine aw (n _ _ hi) (fun p N=>?_) (fun z B=>Gj ((n _ _ hi).flt z B)) h
   obtain⟨q,hq,rfl⟩:=YO.1 N
   grind
  ·grind
 case lookup t x y Z=>
  split at h
  ·rename_i i hi;simp only[AG];rw[get (x:=x) (by simp[Op.operands]),get (x:=y) (by simp[Op.operands])];exact aE (n _ _ hi) E A h
  ·grind
 case call c=>
  split at h
  ·rename_i x t l hx X
   split at h
   ·rename_i i hi
    have m:c.args=#[x]:=Y6 (by simpa using hx)
    have J:c.argTypes=#[t]:=Y6 (by simpa using X)
    simp only[AG,l,m,J]
    show 1=1∧B9 P H' t (w x) (KR r K)
    rw[get (x:=x) (by simp[Op.operands,Call.operands,l,m])]
    exact⟨rfl,aW (n _ _ hi) E A h⟩
   grind
  ·rename_i x y l hx
   have m:c.args=#[x,y]:=Y6 (by simpa using hx)
   simp only[AG,l,m]
   show Cr false (w x) (w y) (KR r K)
   rw[get (x:=x) (by simp[Op.operands,Call.operands,l,m]),get (x:=y) (by simp[Op.operands,Call.operands,l,m])]
   exact Sf h
  ·rename_i x y l hx
   have m:c.args=#[x,y]:=Y6 (by simpa using hx)
   simp only[AG,l,m]
   show Cr true (w x) (w y) (KR r K)
   rw[get (x:=x) (by simp[Op.operands,Call.operands,l,m]),get (x:=y) (by simp[Op.operands,Call.operands,l,m])]
   exact Sf h
  ·rename_i x y z l hx
   have m:c.args=#[x,y,z]:=Y6 (by simpa using hx)
   simp only[AG,l,m]
   show D8 true (w x) (w y) (w z) (KR r K)
   rw[get (x:=x) (by simp[Op.operands,Call.operands,l,m]),get (x:=y) (by simp[Op.operands,Call.operands,l,m]),get (x:=z) (by simp[Op.operands,Call.operands,l,m])]
   unfold D8 at h
   split at h
   ·rename_i S U V
    rw[S,U,V]
    simp only[ren,D8];exact .mk' h rfl
   grind
  ·grind
end
abbrev BF:=List (Nat×Bool)
abbrev AQ:=List (Nat×BF)
def lk:AQ→Nat→BF
 |[],_=>[]
 |(i,c)::r,j=>match Nat.beq i j with|true=>c|false=>lk r j
def Js(t:Bool):Bool→Bool
 |true=>t
 |false=>!t
theorem NZ{t b:Bool}:Js t b=true↔t=b:=by cases t<;>cases b<;>simp[Js]
def GM:BF→BF→Bool
 |[],[]=>true
 |(i,a)::r,(j,b)::q=>Nat.beq i j&&Js a b&&GM r q
 |_,_=>false
theorem OI:∀{a b:BF},GM a b=true→a=b
 |[],[],_=>rfl
 |(i,a)::r,(j,b)::q,h=>by
  simp only[GM,Yc]at h
  rw[Ya h.1.1,NZ.1 h.1.2,OI h.2]
 |[],_::_,h=>by simp[GM]at h
 |_::_,[],h=>by simp[GM]at h
def L1(a:BF):BF→Bool
 |[]=>GM a []
 |q::b=>GM a (q::b)||L1 a b
theorem SZ{a:BF}:∀{b:BF},L1 a b=true→∀q∈a,q∈b
 |[],h,q,c=>by rw[OI h]at c;exact c
 |p::b,h,q,c=>by
  simp only[L1,YD]at h
  rcases h with h|h
  ·rw[OI h]at c;exact c
  ·exact Yy _ (SZ h q c)
def BI(s:Nat→AV)(c:BF):Prop:=∀q∈c,s q.1=.d (.bool q.2)
def DD(s:Nat→AV):BF→Option Bool
 |[]=>some true
 |[(d,b)]=>match s d with|.d (.bool t)=>some (Js t b)|_=>none
 |(d,b)::r=>match s d,DD s r with|.d (.bool t),some c=>some (c&&Js t b)|_,_=>none
theorem Fj{s:Nat→AV}:∀{c:BF} {g:Bool},DD s c=some g→(g=true↔BI s c)
 |[],g,h=>by simp only[DD,Yh]at h;subst h;simp[BI]
 |[(d,b)],g,h=>by
  simp only[DD]at h
  split at h
  ·rename_i t f
   simp only[Yh]at h
   subst h
   rw[NZ]
   simp[BI,f]
  ·cases h
 |(d,b)::q::r,g,h=>by
  simp only[DD]at h
  split at h
  ·rename_i t c f i
   simp only[Yh]at h
   subst h
   have j:=Fj i
   rw[Yc,j,NZ]
   constructor
   ·rintro⟨e,rfl⟩ p a
    rcases YJ.1 a with rfl|a
    ·exact f
    ·exact e p a
   ·intro e
    refine⟨fun p a=>e p (Yy _ a),?_⟩
    have:=e (d,b) (YF ..)
    grind
  ·cases h
def Gv(e:Nat)(c:BF):Bool:=c.all fun q=>!Nat.beq q.1 e
def fresh(e:Nat)(env:AQ):Bool:=env.all fun p=>Gv e p.2
theorem S9{s:Nat→AV}{e:Nat}{v:AV}{c:BF}(h:Gv e c=true):BI (upd s e v) c↔BI s c:=by
 have key:∀q∈c,upd s e v q.1=s q.1:=fun q a=>by
  have:=Yo.1 h q a
  unfold upd
  rw[Yt]
  intro he
  subst he
  simp at this
 constructor
 ·exact fun h q a=>(key q a)▸h q a
 ·exact fun h q a=>(key q a).trans (h q a)
theorem SU{e:Nat}:∀{env:AQ},fresh e env=true→∀j,Gv e (lk env j)=true
 |[],_,j=>rfl
 |(i,c)::r,h,j=>by
  simp only[fresh,E1,Yc]at h
  simp only[lk]
  split
  ·exact h.1
  ·exact SU h.2 j
theorem OJ{env:AQ}{e:Nat}{c:BF}(j:Nat):lk ((e,c)::env) j=if j=e then c else lk env j:=by
 simp only[lk]
 by_cases h:j=e
 ·subst h;simp
 ·rw[Yt h]
  split
  ·rename_i a;exact absurd (Ya a).symm h
  ·rfl
def EQ(env:AQ)(c:BF):Operand→Bool
 |.tmp t=>L1 (lk env t) c
 |_=>true
def Bk(env:AQ)(c:BF):Op→Bool
 |.pick (.tmp d) x y=>EQ env c (.tmp d)&&EQ env ((d,true)::c) x&&EQ env ((d,false)::c) y
 |op=>op.operands.toList.all (EQ env c)
structure RenOk (r:Ren) (l outs:Nat):Prop where
 own:∀d,r.κ (1,d)=(l+1,d)
 out:∀i,i<outs→(r.κ (0,i)).1≤l
 inj:∀i j,i<outs→j<outs→r.κ (0,i)=r.κ (0,j)→i=j
 no:∀k,r.no k→∃i,i<outs∧r.κ (0,i)=k
structure RG (r:Ren) (l outs:Nat) (env:AQ) (τ σ:St):Prop where
 s:∀j,(BI τ.s (lk env j)→σ.s j=ren r (τ.s j))∧(¬BI τ.s (lk env j)→σ.s j=.tup [])
 h:B3 r τ.H σ.H
 g:∀d,(σ.H (l+1,d)).g=r.γ (1,d)+(τ.H (1,d)).g
 go:∀i,i<outs→(σ.H (r.κ (0,i))).g=r.γ (0,i)+(τ.H (0,i)).g
 k:∀k,(τ.H k).live=true→k.1=1∨(k.1=0∧k.2<outs)
 o:∀k:Aa,k.1≤l→¬r.no k→σ.H k=r.H0 k
def D1(P:Program)(l:Nat)(r:Ren)(f:FuncId)(xs:List AV)(c:List (Aa×Blk))(x:AV):Prop:=
 ∀a,(∀p∈c,p.2.live=true→a (r.κ p.1)=Ao r p.1 p.2)→(∀k:Aa,k.1≤l→¬r.no k→a k=r.H0 k)→Zbb P f (l+1) (Ae r xs) a (fun y b=>y=ren r x∧b=a)
def Jc(P:Program)(l:Nat)(r:Ren)(i:Nat)(xs:List AV)(d:List (Aa×Blk))(x:AV):Prop:=
 ∃f first a,r.θ i=.fn (.func f) first a∧∀b,(∀p∈d,p.2.live=true→b (r.κ p.1)=Ao r p.1 p.2)→(∀k:Aa,k.1≤l→¬r.no k→b k=r.H0 k)→Zbb P f (l+1) (first++Ae r xs++a) b (fun y c=>y=ren r x∧c=b)
def Ll(P:Program)(l:Nat)(r:Ren)(H:Hp)(f:AV)(xs:List AV)(g:Option Bool)(a:AT)(K:AV→AT→Prop):Prop:=
 match f,a with
 |.fn (.func i) first b,.call x ks a=>AP g (D1 P l r i (first++xs++b) (ks.map fun k=>(k,H k)) x)∧K x a
 |.fn (.yield i) _ _,.call x ks a=>AP g (Jc P l r i xs (ks.map fun k=>(k,H k)) x)∧K x a
 |_,_=>False
def Me(T:Nat→Option TI)(τ:St)(t:TypeId)(len:Nat)(parts:List (Nat×Operand))(a:AT)(K:AV→AT→Prop):Prop:=
 match T t with
 |some i=>(match i.elm with
  |some (e,sz)=>(match Nat.ble 1 sz,len with
   |true,0=>(match parts with|[]=>K .e0 a|_=>False)
   |true,len+1=>(match T e,Nat.ble ((len+1)*sz) 16777216 with
    |some j,true=>(match j.zer with
     |some z=>(match Nat.beq z.length sz,Dj sz 0 (parts.map fun p=>(p.1,ev τ.s p.2))with
      |true,some es=>(match Nat.beq es.length (len+1)with|true=>K (.d (.list es)) a|false=>False)
      |_,_=>False)
     |none=>False)
    |_,_=>False)
   |_,_=>False)
  |none=>False)
 |none=>False
def pV(P:Program)(T:Nat→Option TI)(l:Nat)(r:Ren)(τ:St)(op:Op)(g:Option Bool)(a:AT)(K:AV→AT→Prop):Prop:=
 match op with
 |.call c=>match c.callee with
  |.value f=>Ll P l r τ.H (ev τ.s f) (c.args.toList.map (ev τ.s)) g a K
  |_=>tV T τ.H op (ev τ.s) g a K
 |.buildSlice t len parts=>Me T τ t len parts.toList a K
 |op=>tV T τ.H op (ev τ.s) g a K
def CV(n d:Nat)(K:St→AT→Prop)(τ:St)(v:AV)(a:AT):Prop:=
 match Nat.ble (d+1) n with
 |true=>K ⟨upd τ.s d v,τ.H⟩ a
 |false=>False
section
variable {P:Program} {T:Nat→Option TI} {r:Ren} {l n outs:Nat} {env:AQ} {τ σ:St} {g:Option Bool} {a:AT} {c:BF}
theorem ii(v:Value):ren r (cv v)=cv v:=by unfold cv;split<;>simp[ren]
theorem Gt(h:RG r l outs env τ σ)(hs:BI τ.s c){x:Operand}(hx:EQ env c x=true):ev σ.s x=ren r (ev τ.s x):=by
 cases x with
 |tmp t=>exact(h.s t).1 fun q a=>hs q (SZ hx q a)
 |const v=>exact(ii v).symm
 |global g=>simp[ev,ren]
 |func f=>simp[ev,ren,Ae]
theorem Dy(h:RG r l outs env τ σ)(hs:BI τ.s c){op:Op}(hx:op.operands.toList.all (EQ env c)=true):∀x∈op.operands,ev σ.s x=ren r (ev τ.s x):=
 fun x hm=>Gt h hs (Yo.1 hx x (by simpa using hm))
theorem UG(s:AJ P T)(h:RG r l outs env τ σ)(hs:BI τ.s c)(u:∀b,g=some b→b=true){op:Op}(hx:Bk env c op=true){K:AV→AT→Prop}(i:tV T τ.H op (ev τ.s) g a K):
  AG P σ.H op (ev σ.s) (KR r K):=by
 unfold Bk at hx
 split at hx
 ·rename_i d x y
  simp only[Yc]at hx
  obtain⟨⟨n,o⟩,p⟩:=hx
  have f:=i
  simp only[tV]at f
  split at f
  ·rename_i t k
   have m:=Gt h hs n
   refine RC (T:=T) (H:=τ.H) (g:=g) (a:=a) k m (fun e=>Gt h (c:=(d,true)::c) ?_ o) (fun e=>Gt h (c:=(d,false)::c) ?_ p) i
   all_goals
    subst e
    intro q j
    rcases YJ.1 j with rfl|j
    ·exact k
    ·exact hs q j
  grind
 ·exact ei s h.h u (Dy h hs hx) i
theorem N8(h:RG r l outs env τ σ)(hs:BI τ.s c)(s:∀b,g=some b→b=true){cl:Call}{f:Operand}(o:cl.callee=.value f)(hx:Bk env c (.call cl)=true){K:AV→AT→Prop}
  (e:Ll P l r τ.H (ev τ.s f) (cl.args.toList.map (ev τ.s)) g a K):
  ∃i first d x j,ev σ.s f=.fn (.func i) first d∧Zbb P i (l+1) (first++cl.args.toList.map (ev σ.s)++d) σ.H (fun y t=>y=ren r x∧t=σ.H)∧K x j:=by
 have hx:(Op.call cl).operands.toList.all (EQ env c)=true:=hx
 have q:=Dy h hs hx f (by simp[Op.operands,Call.operands,o])
 have m:cl.args.toList.map (ev σ.s)=Ae r (cl.args.toList.map (ev τ.s)):=OC fun x hm=>Dy h hs hx x (by simp only[Op.operands,Call.operands,o,Im];exact .inr (by simpa using hm))
 have n:∀ks:List Aa,∀p∈ks.map fun k=>(k,τ.H k),p.2.live=true→σ.H (r.κ p.1)=Ao r p.1 p.2:=fun ks p e hl=>by
  obtain⟨k,A,rfl⟩:=YO.1 e
  exact h.h k hl
 unfold Ll at e
 split at e
 ·rename_i i first d x ks j he
  have v:D1 _ _ _ _ _ _ _:=AU s e.1
  refine⟨i,Ae r first,Ae r d,x,j,by rw[q,he];simp[ren],?_,e.2⟩
  rw[m,←DW,←DW]
  exact v σ.H (n ks) h.o
 ·rename_i i xs ys x ks j he
  obtain⟨u,first,d,w,z⟩:Jc _ _ _ _ _ _ _:=AU s e.1
  refine⟨u,first,d,x,j,by rw[q,he];simp[ren,w],?_,e.2⟩
  rw[m]
  exact z σ.H (n ks) h.o
 grind
theorem RG.put(h:RG r l outs env τ σ){e:Nat}{ch:BF}(b:fresh e env=true)(c:Gv e ch=true){v:AV}{y:AV}(hy:BI τ.s ch→y=ren r v)(d:¬BI τ.s ch→y=.tup []):
  RG r l outs ((e,ch)::env) ⟨upd τ.s e v,τ.H⟩ ⟨upd σ.s e y,σ.H⟩:=by
 refine⟨fun j=>?_,h.h,h.g,h.go,h.k,h.o⟩
 simp only
 rw[OJ]
 by_cases a:j=e
 ·subst a
  rw[Yj rfl,S9 c]
  simp only[upd,Yx]
  grind
 ·rw[Yt a,S9 (SU b j)]
  simp only[upd,Yt a]
  exact h.s j
end
section
variable {P:Program} {l n:Nat} {H:Hp} {m:Mu} {S:Nat→Prop} {w w':World} {s:Nat→AV} {a:Act}
theorem Ok.allocO(h:Ok l H m S w)(k:Aa)(O:k.1≤l)(b:Blk)(K:b.e.isO=true)(u:b.cells=[])(N:(H k).g<b.g)(o:Obj)(D:w'.heap=w.heap.push o)
  (J:FJ w' S w.heap.size b.e) (F:w'.os=w.os) (G:w'.tape=w.tape) (I:w'.output=w.output):
  Ok l (updH H k b) (AM m k ⟨w.heap.size,0,0⟩) S w'∧Ext l H m S w (updH H k b) (AM m k ⟨w.heap.size,0,0⟩) S w':=by
 have d:∀i,i<w.heap.size→w'.heap[i]?=w.heap[i]?:=fun i hi=>by rw[D,G7,Yt (by omega)]
 have j:Ext l H m S w (updH H k b) (AM m k ⟨w.heap.size,0,0⟩) S w':=by
  refine⟨fun _ h=>h,fun i hi=>d i (h.sub i hi),fun q a=>?_,fun q a y hl=>?_,F,G,I,by rw[D];simp⟩
  ·by_cases e:q=k
   ·subst e;rw[At];omega
   ·rw[Al _ _ e];exact Yf _
  ·by_cases e:q=k
   ·subst e;rw[At]at y;omega
   ·rw[Al _ _ e]at hl⊢;rw[AB _ _ e];exact⟨hl,rfl,rfl⟩
 have B:∀q:Aa,q.1≤l→(H q).live=true→(m q).cap≠0→(m q).b<w.heap.size:=fun q a hl n=>by
  obtain⟨C,t,_⟩:=h.blk q a hl n
  grind
 have A:∀q:Aa,q.1≤l→(H q).live=true→(H q).e.isO=true→(m q).b<w.heap.size:=fun q a hl n=>by
  obtain⟨C,t,_⟩:=(h.mp.o q a hl).at n
  grind
 refine⟨⟨fun i hi=>?_,fun q a hl c=>?_,fun q a hl c=>?_,fun q s a r hl f c g heq=>?_,fun q a hl c=>?_,
  ⟨fun q a hl=>?_,fun q a hl he=>?_,fun q s a r hl f he p heq=>?_⟩⟩,j⟩
 ·have:=h.sub i hi;rw[D];simp;omega
 ·by_cases e:q=k
  ·subst e;rw[At];exact u
  ·rw[Al _ _ e]at hl⊢;rw[AB _ _ e]at c;exact h.empty q a hl c
 ·by_cases e:q=k
  ·subst e;rw[AD]at c;exact absurd rfl c
  ·rw[Al _ _ e]at hl;rw[AB _ _ e]at c⊢;exact h.fresh q a hl c
 ·by_cases e:q=k
  ·subst e;rw[AD]at c;exact absurd rfl c
  ·by_cases e':s=k
   ·subst e';rw[AD]at g;exact absurd rfl g
   ·rw[AB _ _ e,AB _ _ e']at heq
    rw[Al _ _ e]at hl;rw[Al _ _ e']at f
    rw[AB _ _ e]at c;rw[AB _ _ e']at g
    exact h.inj q s a r hl f c g heq
 ·by_cases e:q=k
  ·subst e;rw[AD]at c;exact absurd rfl c
  ·rw[Al _ _ e]at hl⊢
   rw[AB _ _ e]at c⊢
   obtain⟨C,t,hs,z,hx⟩:=h.blk q a hl c
   refine⟨C,by rw[d _ (B q a hl c)];exact t,hs,z,fun i x v hi M=>?_⟩
   obtain⟨E,g2⟩:=hx i x v hi M
   exact⟨E,g2.ext j a⟩
 ·by_cases e:q=k
  ·subst e;rw[At,AD];exact J
  ·rw[Al _ _ e]at hl⊢;rw[AB _ _ e]
   exact(h.mp.o q a hl).mono (fun _ h=>h) (fun i hi=>d i (h.sub i hi)) (fun L=>d _ (A q a hl L))
 ·by_cases e:q=k
  ·subst e;rw[AD];exact⟨⟨rfl,rfl⟩,fun hs=>by have:=h.sub _ hs;simp at this⟩
  ·rw[Al _ _ e]at hl he;rw[AB _ _ e];exact h.mp.c q a hl he
 ·by_cases e:q=k<;>by_cases e':s=k
  ·grind
  ·subst e
   rw[AD,AB _ _ e']at heq
   rw[Al _ _ e']at f p
   grind
  ·subst e'
   rw[AD,AB _ _ e]at heq
   rw[Al _ _ e]at hl he
   grind
  ·rw[AB _ _ e,AB _ _ e']at heq
   rw[Al _ _ e]at hl he;rw[Al _ _ e']at f p
   exact h.mp.i q s a r hl f he p heq
theorem Ok.writeO(h:Ok l H m S w)(k:Aa)(y:k.1≤l)(hl:(H k).live=true)(t:(H k).e.isO=true)(e':EK)(n:e'.isO=true)(o:Obj)
  (F:∀b,w'.heap[b]?=if b=(m k).b then some o else w.heap[b]?) (B:w'.heap.size=w.heap.size) (L:FJ w' S (m k).b e') (I:w'.os=w.os) (J:w'.tape=w.tape) (K:w'.output=w.output):
  Ok l (updH H k {H k with e:=e' }) m S w'∧Ext l H m S w (updH H k {H k with e:=e' }) m S w':=by
 obtain⟨Q,R⟩:=h.mp.c k y hl t
 have j:Ext l H m S w (updH H k {H k with e:=e' }) m S w':=by
  refine⟨fun _ h=>h,fun b s=>?_,fun q d=>?_,fun q d T a=>?_,I,J,K,by omega⟩
  ·grind
  ·by_cases e:q=k
   ·subst e;rw[At];exact Yf _
   ·rw[Al _ _ e];exact Yf _
  ·by_cases e:q=k
   ·subst e;rw[At]at a⊢;exact⟨a,rfl,rfl⟩
   ·rw[Al _ _ e]at a⊢;exact⟨a,rfl,rfl⟩
 have f:∀q:Aa,(updH H k {H k with e:=e' } q).live=(H q).live:=fun q=>by
  by_cases e:q=k
  ·subst e;rw[At]
  ·rw[Al _ _ e]
 have g:∀q:Aa,(H q).e.isO=(updH H k {H k with e:=e' } q).e.isO:=fun q=>by
  by_cases e:q=k
  ·subst e;rw[At];exact t.trans n.symm
  ·rw[Al _ _ e]
 refine⟨⟨fun b s=>?_,fun q d a r=>?_,fun q d a r=>?_,fun q E d p a c r D heq=>?_,fun q d a r=>?_,
  ⟨fun q d a=>?_,fun q d a he=>?_,fun q E d p a c he n heq=>?_⟩⟩,j⟩
 ·rw[B];exact h.sub b s
 ·rw[f]at a
  have:=h.empty q d a r
  by_cases e:q=k
  ·subst e;rw[At];exact this
  ·rw[Al _ _ e];exact this
 ·rw[f]at a;exact h.fresh q d a r
 ·rw[f]at a c;exact h.inj q E d p a c r D heq
 ·rw[f]at a
  by_cases e:q=k
  ·grind
  ·rw[Al _ _ e]
   obtain⟨C,s,hs,z,hx⟩:=h.blk q d a r
   have A:(m q).b≠(m k).b:=fun u=>by
    obtain⟨U,O,P⟩:=(h.mp.o k y hl).at t
    rw[u,O]at s;cases s;cases P
   refine⟨C,by rw[F,Yt A];exact s,hs,z,fun i x v hi N=>?_⟩
   obtain⟨G,g2⟩:=hx i x v hi N
   exact⟨G,g2.ext j d⟩
 ·rw[f]at a
  by_cases e:q=k
  ·subst e;rw[At];exact L
  ·rw[Al _ _ e]
   refine(h.mp.o q d a).mono (fun _ h=>h) j.blk (fun M=>?_)
   rw[F,Yt (fun u=>e (h.mp.i q k d y a hl M t u))]
 ·rw[f]at a;rw[←g]at he;exact h.mp.c q d a he
 ·rw[f]at a c;rw[←g]at he n;exact h.mp.i q E d p a c he n heq
theorem MEnt.push{q:Bool}{es:List (List D)}{ents:Array MapEntry}{a:Nat}{s:ByteArray}{ds:List D}{v:Value}(h:MEnt w S q es ents a)(f:VR w S q ds v):
  MEnt w S q (es++[.str s::ds]) (ents.push {key:=.string s,val:=v,born:=a }) (a+1):=by
 have at_:∀(i:Nat) (y:MapEntry),(ents.push {key:=.string s,val:=v,born:=a })[i]?=some y→(i=ents.size∧y={key:=.string s,val:=v,born:=a })∨(i≠ents.size∧ents[i]?=some y):=fun i y hy=>by
  grind
 refine⟨by simp[h.n],fun i k y z hy g e=>?_,fun i y hy=>?_,fun i e y hi hy=>?_⟩
 ·rcases at_ i y hy with⟨rfl,rfl⟩|⟨a1,b⟩<;>rcases at_ k z g with⟨rfl,rfl⟩|⟨j,d⟩
  ·rfl
  ·have:=h.clk k z d;simp only at e;omega
  ·have:=h.clk i y b;simp only at e;omega
  ·exact h.born i k y z b d e
 ·rcases at_ i y hy with⟨rfl,rfl⟩|⟨a1,b⟩
  ·grind
  ·exact Nat.lt_succ_of_lt (h.clk i y b)
 ·rcases at_ i y hy with⟨rfl,rfl⟩|⟨a1,b⟩
  ·rw[h.n,Yr (Yf _),Nat.sub_self]at hi
   cases hi
   exact⟨s,ds,rfl,rfl,f⟩
  ·have c:i<es.length:=by rw[←h.n];exact Gi b
   rw[Yn c]at hi
   exact h.e i e y hi b
end
end Go.Eng
