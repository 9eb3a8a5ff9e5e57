import Derived.Test.YtifefgdogdecnaaGreatDoorEb03
import Derived.Test.YtifefgdogdecnaaGreatDoorEb01
import Derived.Maps.RangeRun
import Derived.Test.YtifefgdogdecnaaGreatDoorEb00
namespace Go.Eng
open Go
set_option linter.all false
inductive Waits (ops:Array Oper):Nat→Nat→Prop
 |one {j i:Nat} {oj:Oper} {e:Edge} (hj:ops[j]?=some oj) (he:e∈oj.after) (hb:Region.binds .any e=true) (hi:e.on=i):Waits ops j i
 |more {j m i:Nat} {oj:Oper} {e:Edge} (hj:ops[j]?=some oj) (he:e∈oj.after) (hb:Region.binds .any e=true) (hm:e.on=m) (h:Waits ops m i):Waits ops j i
def I9(L:List Oper)(i:Nat):Nat→Nat→Bool
 |0,_=>false
 |a+1,j=>match AS L j with|some b=>b.after.toList.any fun e=>Region.binds .any e&&(Nat.beq e.on i||I9 L i a e.on)|none=>false
theorem N0{L:List Oper}{i:Nat}:∀(a j:Nat),I9 L i a j=true→Waits L.toArray j i
 |0,j,h=>by cases h
 |a+1,j,h=>by
  unfold I9 at h
  rw[Bk]at h
  split at h
  ·rename_i f d
   obtain⟨e,he,h⟩:=YX.1 h
   rw[Yc,YD]at h
   have c:L.toArray[j]?=some f:=by simpa using d
   rcases h.2 with b|b
   ·exact .one c (by simpa using he) h.1 (Ya b)
   ·exact .more c (by simpa using he) h.1 rfl (N0 a _ b)
  ·cases h
def DC(ops:Array Oper)(listed:Array Bool):Prop:=∀(m:Nat) (a:Oper),ops[m]?=some a→listed.getD m false=true→∀e∈a.after,Region.binds .any e=true→listed.getD e.on false=true
theorem DC.waits{ops:Array Oper}{listed:Array Bool}(h:DC ops listed){j i:Nat}(c:Waits ops j i):listed.getD j false=true→listed.getD i false=true:=by
 induction c with
 |one b he a hi=>intro hl;rw[←hi];exact h _ _ b hl _ he a
 |more b he a hm _ d=>intro hl;exact d (by rw[←hm];exact h _ _ b hl _ he a)
theorem gi{listed:Array Bool}{i:Nat}(h:listed.getD i true=false):listed.getD i false=false:=by
 grind
theorem DC.ready{ops:Array Oper}{listed:Array Bool}(h:DC ops listed){j:Nat}(f:j∈Region.ready .any ops listed):DC ops (listed.setIfInBounds j true):=by
 obtain⟨i,k,c,a⟩:=mem_ready.1 f
 intro m g hm hl e he d
 by_cases b:j=m
 ·subst b
  rw[c]at hm
  cases hm
  exact getD_set_true (a e he d)
 ·rw[getD_set_ne false b]at hl
  exact getD_set_true (h m g hm hl e he d)
theorem DC.nowait{ops:Array Oper}{listed:Array Bool}(h:DC ops listed){j i:Nat}(g:j∈Region.ready .any ops listed)(hi:listed.getD i true=false):¬Waits ops j i:=fun k=>by
 obtain⟨l,m,c,b⟩:=mem_ready.1 g
 have hi:=gi hi
 cases k with
 |one a he e f=>
  grind
 |more a he e hm d=>
  rw[c]at a
  cases a
  have:=h.waits d (by rw[←hm];exact b _ he e)
  grind
def Bb(o:Oper):Bool:=match o.op,o.dst,o.guard with
 |.store _ _ _,none,none=>true
 |_,_,_=>false
def Ej(o:Oper):Bool:=match o.op with
 |.move _=>true
 |.binOp b _ _ _ _=>(match b with|.add=>true|.sub=>true|_=>false)
 |.indexAddr _ _ _=>true
 |.fieldAddr _ _ _=>true
 |.nilCheck _=>true
 |_=>false
def P3(H H':Hp):Prop:=∀k,(H' k).g=(H k).g∧(H' k).live=(H k).live∧(H' k).sz=(H k).sz
def Jt(L:List Oper)(p:Oper)(k:Nat):Bool:=Bg p k||p.after.toList.any fun e=>Region.binds .any e&&(match L[e.on]? with|some a=>Bg a k|none=>false)
def Mb(L:List Oper)(o:Oper)(k:Nat):Nat→List Oper→Bool
 |_,[]=>true
 |j,p::r=>(match Bb o with|true=>Bg p k|false=>true)&&(match Bb p with|true=>Ej o||Jt L p k|false=>true)&&!Bg o j&&Mb L o k (j+1) r
def GY(L:List Oper):Nat→List Oper→Bool
 |_,[]=>true
 |k,o::r=>Mb L o k (k+1) r&&GY L (k+1) r
theorem T8{L:List Oper}{o:Oper}{k:Nat}:∀{l:List Oper} {j i:Nat} {p:Oper},Mb L o k j l=true→l[i]?=some p→(Bb o=true→Bg p k=true)∧(Bb p=true→Ej o=true∨Jt L p k=true)∧Bg o (j+i)=false
 |[],j,i,p,_,h=>by simp at h
 |q::r,j,i,p,a,h=>by
  simp only[Mb,Yc,Y3]at a
  cases i with
  |zero=>
   grind
  |succ i=>
   have:=T8 a.2 (i:=i) (by simpa using h)
   grind
theorem O7{L:List Oper}:∀{l:List Oper} {k i j:Nat} {o p:Oper},GY L k l=true→i<j→l[i]?=some o→l[j]?=some p→(Bb o=true→Bg p (k+i)=true)∧(Bb p=true→Ej o=true∨Jt L p (k+i)=true)∧Bg o (k+j)=false
 |[],k,i,j,o,p,_,_,h,_=>by simp at h
 |q::r,k,i,j,o,p,b,c,h,a=>by
  simp only[GY,Yc]at b
  cases j with
  |zero=>omega
  |succ j=>
   have a:r[j]?=some p:=by simpa using a
   cases i with
   |zero=>
    simp only[YW,Yh]at h
    subst h
    have:=T8 b.1 a
    grind
   |succ i=>
    have:=O7 b.2 (Nat.lt_of_succ_lt_succ c) (by simpa using h) a
    grind
theorem OC{p:Oper}{k:Nat}(h:Bg p k=true)(b:∀e∈p.after,Region.binds .any e=true→e.on≠k):False:=by
 unfold Bg at h
 rw[YX]at h
 obtain⟨e,he,a⟩:=h
 simp only[Yc]at a
 exact b e (by simpa using he) a.1 (Ya a.2)
section
variable {P:Program} {l n:Nat} {B:Base} {H H':Hp} {ops:Array Oper} {ρ:Operand→AV}
theorem VF{o:Oper}{v:AV}(h:Ej o=true)(hs:P3 H H')(a:qV P l H o ρ v):qV P l H' o ρ v:=by
 obtain⟨e,op,type,pos,after,guard⟩:=o
 cases op<;>simp only[Ej]at h<;>first|(cases h;done)|skip
 case move=>exact a
 case nilCheck=>
  simp only[qV,AI]at a⊢
  unfold F0 at a⊢
  split at a
  ·rename_i k g off _
   obtain⟨b,c,d⟩:=hs k
   grind
  ·exact a
  ·grind
 case fieldAddr=>
  simp only[qV,AI]at a⊢
  unfold CM at a⊢
  split at a
  ·exact a
  ·rename_i k g off o n _ _
   obtain⟨b,c,d⟩:=hs k
   grind
  ·grind
 case indexAddr=>
  simp only[qV,AI]at a⊢
  unfold Cb at a⊢
  split at a
  ·exact a
  ·rename_i k g off len _ n _ sz _ _ _
   obtain⟨b,c,d⟩:=hs k
   grind
  ·exact a
  ·rename_i k g off _ n _ _ _
   obtain⟨b,c,d⟩:=hs k
   grind
  ·grind
 case binOp=>
  simp only[qV,AI]at a⊢
  unfold BB at a⊢
  split at a
  ·exact a
  ·exact a
  ·grind
  ·exact a
  ·grind
  ·grind
theorem kw{o:Oper}{s:Nat→AV}{v:AV}(h:Ej o=true)(hs:P3 H H')(a:YA P l H ops o s v):YA P l H' ops o s v:=by
 unfold YA at a⊢
 split at a
 ·exact VF h hs a
 ·split at a
  ·exact⟨fun e=>VF h hs (a.1 e),a.2⟩
  grind
def DV(P:Program)(l:Nat)(o:Oper)(s:Nat→AV)(H H':Hp):Prop:=match o.op with
 |.store t a x=>match ev s a,BL (ev s x)with
  |.ptr k g off,some vs=>g=(H k).g∧(H k).live=true∧vs.length=P.cellsOf t∧vs≠[]∧off+vs.length≤(H k).cells.length∧(k.1=l+1∨vs.all (AV.low k.1)=true)∧
    H'=updH H k {H k with cells:=(H k).cells.take off++vs++(H k).cells.drop (off+vs.length) }
  |_,_=>False
 |_=>False
theorem gO{o:Oper}{s:Nat→AV}(h:DV P l o s H H'):P3 H H':=by
 unfold DV at h
 split at h
 ·split at h
  ·obtain⟨_,_,_,_,_,_,rfl⟩:=h
   intro k
   unfold updH
   grind
  grind
 grind
theorem i5{o:Oper}{s:Nat→AV}{K:St→Prop}(hs:Bb o=true)(h:AX P l n o K ⟨s,H⟩):∃H',DV P l o s H H'∧K ⟨s,H'⟩:=by
 obtain⟨a,op,type,pos,after,guard⟩:=o
 cases op<;>simp only[Bb]at hs<;>first|(cases hs;done)|skip
 cases a with
 |some d=>cases hs
 |none=>
  simp only[AX]at h
  simp only[DV]
  grind
theorem iU{o:Oper}{s:Nat→AV}{K:St→Prop}(hs:Bb o=true)(h:DV P l o s H H')(b:K ⟨s,H'⟩):AX P l n o K ⟨s,H⟩:=by
 obtain⟨a,op,type,pos,after,guard⟩:=o
 cases op<;>simp only[Bb]at hs<;>first|(cases hs;done)|skip
 cases a with
 |some d=>cases hs
 |none=>
  simp only[DV]at h
  simp only[AX]
  grind
theorem gc{o:Oper}{s:Nat→AV}{d:Nat}{u:AV}(g:d∉o.looksAt ops)(h:DV P l o (upd s d u) H H'):DV P l o s H H':=by
 have b:∀x∈o.op.operands,ev (upd s d u) x=ev s x:=fun x hx=>by
  cases x with
  |tmp t=>
   have c:t≠d:=fun e=>g (by
    subst e
    exact Gj _ (List.mem_filterMap.2 ⟨.tmp t,by simpa using hx,rfl⟩))
   simp[ev,upd,c]
  |_=>rfl
 unfold DV at h⊢
 split at h
 ·rename_i t a x f
  rw[b a (by rw[f];simp[Op.operands]),b x (by rw[f];simp[Op.operands])]at h
  exact h
 grind
variable {fin:Bool} {X:St→Prop}
def C6(P:Program)(l n:Nat)(ops:Array Oper)(fin:Bool)(X:St→Prop)(i:Nat)(K:St→Prop)(σ:St):Prop:=
 match ops[i]? with
 |none=>K σ
 |some o=>(BM o=true∧∃d v,o.dst=some d∧d<n∧YA P l σ.H ops o σ.s v∧K ⟨upd σ.s d v,σ.H⟩)∨(Bb o=true∧∃H',DV P l o σ.s σ.H H'∧K ⟨σ.s,H'⟩)∨(fin=true∧i+1=ops.size∧X σ)
def GU(P:Program)(l n:Nat)(ops:Array Oper)(fin:Bool)(X:St→Prop)(Q:St→Prop):Nat→Array Bool→St→Prop
 |0,listed,σ=>Region.ready .any ops listed=[]∧Q σ
 |fuel+1,listed,σ=>(Region.ready .any ops listed=[]→Q σ)∧∀i∈Region.ready .any ops listed,C6 P l n ops fin X i (GU P l n ops fin X Q fuel (listed.setIfInBounds i true)) σ
theorem eC{i:Nat}{K g:St→Prop}{σ:St}(h:∀s,K s→g s)(b:C6 P l n ops fin X i K σ):C6 P l n ops fin X i g σ:=by
 unfold C6 at*
 split
 ·rename_i e;rw[e]at b;exact h _ b
 ·rename_i o e
  rw[e]at b
  rcases b with⟨a,d,v,c,f,j,k⟩|⟨a,H',c,f⟩|a
  ·exact .inl ⟨a,d,v,c,f,j,h _ k⟩
  ·exact .inr (.inl ⟨a,H',c,h _ f⟩)
  ·exact .inr (.inr a)
theorem gT{i j:Nat}{c t:Oper}{d:Nat}{v:AV}(A:ops[j]?=some t)(a:c.dst=some d)(m:c.apart ops t=true)(p:Bb t=true→Ej c=true)(r:fin=true→j+1≠ops.size){K:St→Prop}{s:Nat→AV}
  (hy:YA P l H ops c s v) (h:C6 P l n ops fin X j K ⟨upd s d v,H⟩):C6 P l n ops fin X j (fun g=>YA P l g.H ops c g.s v∧K ⟨upd g.s d v,g.H⟩) ⟨s,H⟩:=by
 obtain⟨w,x,y⟩:=Oper.apart_spec m
 unfold C6 at*
 simp only[A]at*
 rcases h with⟨b,e,u,he,o,f,k⟩|⟨b,H',f,k⟩|⟨b,z,_⟩
 ·refine .inl ⟨b,e,u,he,o,UX (w d a) f,hZ (y e he) hy,?_⟩
  have q:d≠e:=fun e'=>x d a (e'▸he)
  rw[fu (Ne.symm q)]
  exact k
 ·exact .inr (.inl ⟨b,H',gc (w d a) f,kw (p b) (gO f) hy,k⟩)
 ·exact absurd z (r b)
theorem cu{Q:St→Prop}{i:Nat}{o:Oper}{d:Nat}{v:AV}(hi:ops[i]?=some o)(hq:BM o=true)(D:o.dst=some d)(L:d<n):
  ∀(fuel:Nat) (listed:Array Bool) (s:Nat→AV) (H:Hp),
   (∀j u,ops[j]?=some u→j≠i→listed.getD j true=false→(∀e∈u.after,Region.binds .any e=true→e.on≠i∧∀a,ops[e.on]?=some a→Bg a i=false)→¬Waits ops j i→o.apart ops u=true∧(Bb u=true→Ej o=true)∧(fin=true→j+1≠ops.size))→DC ops listed→
   (∀m a,ops[m]?=some a→Bg a i=true→listed.getD m true=false)→i∈Region.ready .any ops listed→YA P l H ops o s v→
   GU P l n ops fin X Q fuel (listed.setIfInBounds i true) ⟨upd s d v,H⟩→GU P l n ops fin X Q (fuel+1) listed ⟨s,H⟩:=by
 have w:∀{K:St→Prop} {s:Nat→AV} {H:Hp},YA P l H ops o s v→K ⟨upd s d v,H⟩→C6 P l n ops fin X i K ⟨s,H⟩:=fun hy hK=>by
  unfold C6;simp only[hi];exact .inl ⟨hq,d,v,D,L,hy,hK⟩
 intro fuel
 induction fuel with
 |zero=>
  intro listed s H _ _ T t hy B
  refine⟨fun h=>(by rw[h]at t;cases t),fun j A=>?_⟩
  by_cases b:j=i
  ·subst b;exact w hy B
  ·have:=ready_mono A b
   rw[B.1]at this
   cases this
 |succ fuel ih=>
  intro listed s H f W T t hy B
  refine⟨fun h=>(by rw[h]at t;cases t),fun j A=>?_⟩
  by_cases b:j=i
  ·subst b;exact w hy B
  ·have c:=B.2 j (ready_mono A b)
   obtain⟨q,u,z,p⟩:=mem_ready.1 A
   have r:∀e∈u.after,Region.binds .any e=true→e.on≠i:=fun e he I heq=>by
    have c:=p e he I
    have C:=(mem_ready.1 t).1
    rw[heq]at c
    rcases Yw i listed.size with x|x
    ·simp[x]at C c;rw[C]at c;cases c
    ·simp[YV x]at c
   have y:∀e∈u.after,Region.binds .any e=true→e.on≠i∧∀a,ops[e.on]?=some a→Bg a i=false:=fun e he I=>⟨r e he I,fun a S=>by
    cases J:Bg a i with
    |false=>rfl
    |true=>
     have c:=p e he I
     have C:=T _ a S J
     rcases Yw e.on listed.size with x|x
     ·simp[x]at C c;rw[C]at c;cases c
     ·simp[YV x]at c⟩
   have M:=f j u z b q y (W.nowait A (mem_ready.1 t).1)
   have Z:=gT (i:=i) z D M.1 M.2.1 M.2.2 hy c
   have g:∀k ok,ops[k]?=some ok→k≠i→(listed.setIfInBounds j true).getD k true=false→
     (∀e∈ok.after,Region.binds .any e=true→e.on≠i∧∀a,ops[e.on]?=some a→Bg a i=false)→¬Waits ops k i→o.apart ops ok=true∧(Bb ok=true→Ej o=true)∧(fin=true→k+1≠ops.size):=fun k ok hk N G O R=>by
    refine f k ok hk N ?_ O R
    by_cases E:j=k
    ·subst E;exact q
    ·rw[getD_set_ne true E]at G;exact G
   have U:∀m a,ops[m]?=some a→Bg a i=true→(listed.setIfInBounds j true).getD m true=false:=fun m a hm J=>by
    by_cases F:j=m
    ·subst F
     rw[z]at hm
     cases hm
     exact(OC J r).elim
    ·rw[getD_set_ne true F];exact T m a hm J
   refine eC (fun Y V=>ih (listed.setIfInBounds j true) Y.s Y.H g (W.ready A) U (ready_mono t (Ne.symm b)) V.1 ?_) Z
   rw[Rh _ _ b]
   exact V.2
theorem OF{K K0:St→Prop}{m:Nat}(p:∀k (listed:Array Bool) (s:Nat→AV) (H:Hp),k+m=ops.size→(∀j,listed.getD j true=false→k≤j)→Region.lexFrom .any ops m k listed=true→K0 ⟨s,H⟩→GU P l n ops fin X K m listed ⟨s,H⟩)(w:fin=true→∀i,i+1<ops.size→Waits ops (ops.size-1) i)(z:∀i j N u,i<j→ops[i]?=some N→ops[j]?=some u→(Bb N=true→Bg u i=true)∧(Bb u=true→Ej N=true∨Jt ops.toList u i=true)∧Bg N j=false):
  ∀(rest:List Oper) (k:Nat) (listed:Array Bool) (s:Nat→AV) (H:Hp),rest.all (fun o=>BM o||Bb o)=true→(∀j,listed.getD j true=false→k≤j)→(∀j,k≤j→j<ops.size→listed.getD j true=false)→
  k+rest.length+m=ops.size→DC ops listed→(∀j,j<rest.length→rest[j]?=ops[k+j]?)→Region.lexFrom .any ops (rest.length+m) k listed=true→Cf P l n (ops.toList.map (·.dst)) rest K0 ⟨s,H⟩→GU P l n ops fin X K (rest.length+m) listed ⟨s,H⟩
 |[],k,listed,s,H,_,F,_,r,_,_,C,h=>by
  simp only[Fl,YL,Dw]at C r⊢
  exact p k listed s H r F C h
 |o::rest,k,listed,s,H,hq,F,hk2,r,hD,hl,C,h=>by
  have M:ops[k]?=some o:=by simpa using(hl 0 (by simp)).symm
  rw[Y7,Nat.add_right_comm]at C⊢
  simp only[Region.lexFrom,Yc]at C
  obtain⟨⟨D,hf⟩,Q⟩:=C
  have D:k∈Region.ready .any ops listed:=by simpa using D
  simp only[Fg,Yc,YD]at hq
  have V:∀j,(listed.setIfInBounds k true).getD j true=false→k+1≤j:=fun j E=>by
   by_cases g:k=j
   ·subst g
    exfalso
    rcases Yw k listed.size with L|L
    ·simp[L]at E
    grind
   ·rw[getD_set_ne true g]at E
    grind
  have G:∀j,k+1≤j→j<ops.size→(listed.setIfInBounds k true).getD j true=false:=fun j h1 h2=>by
   rw[getD_set_ne true (by omega)]
   grind
  have hu:∀m om,ops[m]?=some om→Bg om k=true→listed.getD m true=false:=fun m om hm ho=>by
   grind
  have Y:∀j,j<rest.length→rest[j]?=ops[k+1+j]?:=fun j E=>by have:=hl (j+1) (by simp;omega);simpa[Yu,Kj 1 j]using this
  have next:∀s' H',Cf P l n (ops.toList.map (·.dst)) rest K0 ⟨s',H'⟩→GU P l n ops fin X K (rest.length+m) (listed.setIfInBounds k true) ⟨s',H'⟩:=fun s' H' L=>
   OF p w z rest (k+1) _ s' H' (by simpa using hq.2) V G (by simp only[Y7]at r;omega) (hD.ready D) Y Q L
  by_cases a:Bb o=true
  ·
   have y:o.guard=none:=by
    cases y:o.guard with
    |none=>rfl
    |some _=>obtain⟨O,op,type,pos,after,guard⟩:=o;simp only at y;subst y;cases op<;>cases O<;>simp[Bb]at a
   have J:AX P l n o (Cf P l n (ops.toList.map (·.dst)) rest K0) ⟨s,H⟩:=by
    unfold Cf at h
    simp only[y]at h
    unfold Dl at h
    split at h
    ·rename_i S;simp[Bb,S]at a
    ·rename_i c S;simp[Bb,S]at a
    ·exact h
   obtain⟨H',hS,hK⟩:=i5 a J
   refine⟨fun h=>(by rw[h]at D;cases D),fun j E=>?_⟩
   by_cases g:j=k
   ·subst g
    unfold C6
    grind
   ·exfalso
    obtain⟨f,u,q,hall⟩:=mem_ready.1 E
    have W:=F j f
    have he:=(z k j o u (by omega) M q).1 a
    refine OC he fun e he x heq=>?_
    grind
  ·have B:BM o=true:=by rcases hq.1 with h|h;exact h;exact absurd h a
   have hst:∃d v,o.dst=some d∧d<n∧YA P l H ops o s v∧Cf P l n (ops.toList.map (·.dst)) rest K0 ⟨upd s d v,H⟩:=by
    unfold Cf at h
    unfold YA
    cases y:o.guard with
    |none=>simp only[y]at h;exact TD B h
    |some gw=>
     obtain⟨i,b⟩:=gw
     simp only[y]at h⊢
     split at h
     ·rename_i t ht
      cases t with
      |true=>
       obtain⟨d,v,h1,h2,h3,h4⟩:=TD B (h.1 rfl)
       grind
      |false=>
       grind
     grind
   obtain⟨d,v,hd,T,hy,hK⟩:=hst
   refine cu M B hd T (rest.length+m) listed s H (fun j u q g f I Z=>⟨Region.free_spec M hf j u q g f (fun e he x=>(I e he x).1),fun hsj=>?_,fun U A=>Z (by have:=w U k (by have:=F j f;omega);rwa [←A,Nat.add_sub_cancel]at this)⟩) hD hu D hy (next _ _ hK)
   have W:=F j f
   rcases(z k j o u (by omega) M q).2.1 hsj with h|h
   ·exact h
   ·exfalso
    unfold Jt at h
    rw[YD]at h
    rcases h with h|h
    ·exact OC h fun e he x=>(I e he x).1
    ·obtain⟨e,he,x⟩:=YX.1 h
     rw[Yc]at x
     obtain⟨hb1,R⟩:=x
     split at R
     ·grind
     grind
theorem bv{i:Nat}{σ:St}{a:Act}{w:World}{K:St→Prop}{q:Act→World→Prop}{f:Exit→Act→World→Prop}(r:R l n B σ a w)
  (h:∀σ a w,R l n B σ a w→K σ→q a w) (L:fin=true→i+1=ops.size→X σ→wpOp P ops f i q a w) (A:C6 P l n ops fin X i K σ):wpOp P ops f i q a w:=by
 have z:=L
 obtain⟨s,H⟩:=σ
 unfold C6 at A
 unfold wpOp
 split
 ·grind
 ·rename_i o G
  simp only[G]at A
  rcases A with⟨C,d,v,F,g,hy,E⟩|⟨k,H',y,E⟩|⟨T,U,V⟩
  rotate_left 2
  ·have:=z T U V
   unfold wpOp at this
   simpa only[G]using this
  ·have go:qV P l H o (ev s) v→o.wp P a w q f:=fun Q=>by
    have:=jm (B:=B) C F g Q a w r f
    refine Oper.wp_mono (fun I w' ⟨D,e,x⟩=>?_) this
    grind
   unfold YA at hy
   cases c:o.guard with
   |none=>
    simp only[c]at hy
    rw[Yj (by simp[Region.wanted,c])]
    grind
   |some J=>
    obtain⟨j,b⟩:=J
    simp only[c]at hy
    split at hy
    ·rename_i t O
     have p:(yielded ops a.tmps j==some b)=t:=by
      obtain⟨m,S,W,Y,M,y,N⟩:=r.un
      exact Oq y O
     cases t with
     |true=>
      rw[Yj (by simp only[Region.wanted,c];exact p)]
      grind
     |false=>
      rw[Yq (by simp only[Region.wanted,c,p];decide)]
      have:=hy.2 rfl
      subst this
      rw[F]
      exact h _ _ _ (R.undef r g) E
    grind
  ·have c:o.guard=none:=by
    cases c:o.guard with
    |none=>rfl
    |some _=>obtain⟨u,op,type,pos,after,guard⟩:=o;simp only at c;subst c;cases op<;>cases u<;>simp[Bb]at k
   rw[Yj (by simp[Region.wanted,c])]
   refine .inl ?_
   have:=Gs (B:=B) (iU (n:=n) (K:=fun D=>D=⟨s,H'⟩) k y rfl) a w r f
   refine Oper.wp_mono (fun I w' ⟨D,e,x⟩=>?_) this
   grind
theorem Sw{b:Exit→Act→World→Prop}{listed:Array Bool}(h:Region.ready .any ops listed=[]){a:Act}{w:World}(c:b .normal a w):∀fuel,wpAny P .any ops b fuel listed a w
 |0=>⟨h,c⟩
 |_+1=>⟨fun _=>c,fun i hi=>by rw[h]at hi;cases hi⟩
theorem N8{Q:St→Prop}{m:Exit→Act→World→Prop}(q:∀σ a w,R l n B σ a w→Q σ→m .normal a w)(b:fin=true→∀i,i+1<ops.size→Waits ops (ops.size-1) i)(y:fin=true→∀σ a w,R l n B σ a w→X σ→∀o,ops[ops.size-1]?=some o→wpList P ops m [o] a w):
  ∀(fuel:Nat) (listed:Array Bool) (σ:St) (a:Act) (w:World),DC ops listed→R l n B σ a w→GU P l n ops fin X Q fuel listed σ→wpAny P .any ops m fuel listed a w
 |0,_,_,_,_,_,d,h=>⟨h.1,q _ _ _ d h.2⟩
 |fuel+1,listed,σ,a,w,x,d,h=>⟨fun u=>q _ _ _ d (h.1 u),fun i hi=>bv d (fun s' t w' r D=>N8 q b y fuel _ s' t w' (x.ready hi) r D) (fun C J H=>by
  obtain⟨u,o,A,z⟩:=mem_ready.1 hi
  have e:ops.size-1=i:=by omega
  have hw:=y C σ a w d H o (by rw[e];exact A)
  have g:Region.ready .any ops (listed.setIfInBounds i true)=[]:=by
   refine List.eq_nil_iff_forall_not_mem.2 fun j E=>?_
   obtain⟨k,I,s,_⟩:=mem_ready.1 E
   have F:j<ops.size:=(Yz.1 s).1
   by_cases f:i=j
   ·subst f
    rcases Yw i listed.size with p|p
    ·simp[p]at k
    ·simp[YV p]at k
   ·rw[getD_set_ne true f]at k
    have v:=b C j (by omega)
    rw[e]at v
    exact x.nowait hi k v
  unfold wpOp
  simp only[A]
  unfold wpList at hw
  split
  ·rename_i c
   rw[Yj c]at hw
   exact hw.imp (Oper.wp_mono fun t w' G=>Sw g G _) id
  ·rename_i c
   rw[Yq c]at hw
   exact Sw g hw _) (h.2 i hi)⟩
theorem DC.none(n:Nat):DC ops (Array.replicate n false):=fun m b _ h=>by
 rw[Yp]at h
 rcases Yw m n with a|a
 ·simp[a]at h
 ·simp[Nat.not_lt.2 a]at h
theorem da{id:Nat}{ops:List Oper}{σ:St}{Q:Exit→St→Prop}(hm:P.follows .mixedOrders=true)(c:Region.lexB .any ops.toArray=true)(C:ops.all (fun o=>BM o||Bb o)=true)(hs:GY ops 0 ops=true)
  (h:Cf P l n (ops.map (·.dst)) ops (Q .normal) σ):A5 P l n B (.region id ops.toArray true) Q σ:=by
 intro a w x
 obtain⟨s,H⟩:=σ
 simp only[Region.lexB,Yc]at c
 have u:=OF (P:=P) (l:=l) (n:=n) (ops:=ops.toArray) (K:=Q .normal) (K0:=Q .normal) (m:=0) (fin:=false) (X:=fun _=>False) (fun k listed s H _ _ c h=>⟨by simpa[Region.lexFrom]using c,h⟩) (fun e=>by cases e) (fun i j E F p hi z=>by
   have:=O7 hs p (by simpa using hi) (by simpa using z)
   simpa using this) ops 0 (Array.replicate ops.toArray.size false) s H C (fun _ _=>YT _) (fun j _ h=>by simp at h;simp[h]) (by simp) (DC.none _) (by simp) (by simpa using c.2) (by simpa using h)
 have d:R l n B ⟨s,H⟩ a {w with drawn:=w.drawn+1 }:=by
  obtain⟨m,S,v,A,f,y,g⟩:=x.un
  obtain⟨r,t⟩:=v.drew (w':={w with drawn:=w.drawn+1 }) rfl rfl rfl rfl
  exact R.keep r A f y g t
 refine wp_region_any hm (N8 (Q:=Q .normal) (fin:=false) (X:=fun _=>False) (fun G D w' b q=>⟨_,q,b⟩) (fun e=>by cases e) (fun e=>by cases e) _ _ _ a _ (DC.none _) d (by simpa using u))
theorem dm{id:Nat}{L:List Oper}{o:Oper}{σ:St}{QQ:Exit→Act→World→Prop}{X:St→Prop}(hm:P.follows .mixedOrders=true)(c:Region.lexB .any (L++[o]).toArray=true)(J:L.all (fun o=>BM o||Bb o)=true)(hs:GY (L++[o]) 0 (L++[o])=true)
  (M:∀i,i<L.length→Waits (L++[o]).toArray L.length i) (h:Cf P l n ((L++[o]).map (·.dst)) L X σ) (G:∀σ a w,R l n B σ a w→X σ→wpList P (L++[o]).toArray QQ [o] a w) {a:Act} {w:World} (g:R l n B σ a w):(Code.region id (L++[o]).toArray true).wp P QQ a w:=by
 obtain⟨s,H⟩:=σ
 simp only[Region.lexB,Yc]at c
 have b:true=true→∀i,i+1<(L++[o]).toArray.size→Waits (L++[o]).toArray ((L++[o]).toArray.size-1) i:=fun _ i hi=>by
  have:=M i (by simpa using hi)
  simpa using this
 have D:=OF (P:=P) (l:=l) (n:=n) (ops:=(L++[o]).toArray) (K:=fun _=>False) (K0:=X) (m:=1) (fin:=true) (X:=X) (fun k listed s H U hl c h=>by
   simp only[Region.lexFrom,Yc]at c
   have C:k∈Region.ready .any (L++[o]).toArray listed:=by simpa using c.1.1
   refine⟨fun f=>(by rw[f]at C;cases C),fun i hi=>?_⟩
   obtain⟨f,O,d,_⟩:=mem_ready.1 hi
   have y:=hl i f
   have z:i<(L++[o]).toArray.size:=(Yz.1 d).1
   unfold C6
   simp only[d]
   refine .inr (.inr ?_)
   exact And.intro (by first|rfl|trivial) (And.intro (by omega) h)) b (fun i j O V t hi u=>by
   have:=O7 hs t (by simpa using hi) (by simpa using u)
   simpa using this) L 0 (Array.replicate (L++[o]).toArray.size false) s H J (fun _ _=>YT _) (fun j _ h=>by simp at h;simp[h]) (by simp) (DC.none _) (fun j u=>by simp[Yn u]) (by simpa using c.2) (by simpa using h)
 have p:R l n B ⟨s,H⟩ a {w with drawn:=w.drawn+1 }:=by
  obtain⟨m,S,E,I,q,F,r⟩:=g.un
  obtain⟨y,z⟩:=E.drew (w':={w with drawn:=w.drawn+1 }) rfl rfl rfl rfl
  exact R.keep y I q F r z
 refine wp_region_any hm (N8 (Q:=fun _=>False) (fin:=true) (X:=X) (fun W T w' A x=>x.elim) b (fun _ σ a w g hx N v=>?_) _ _ _ a _ (DC.none _) p (by simpa using D))
 have e:N=o:=by simpa using v.symm
 subst e
 exact G σ a w g hx
end
end Go.Eng
namespace Go.Eng
set_option linter.all false
open Go Go.RowKit
section
variable {P:Program} {T:Nat→Option TI} {r:Ren} {H H':Hp} {g:Option Bool} {a:AT} {K:AV→AT→Prop}
def KR(r:Ren)(K:AV→AT→Prop)(y:AV):Prop:=∃v a,y=ren r v∧K v a
theorem KR.mk{v:AV}{a:AT}(h:K v a):KR r K (ren r v):=⟨v,a,rfl,h⟩
theorem KR.mk'{v y:AV}{a:AT}(h:K v a)(e:y=ren r v):KR r K y:=⟨v,a,e,h⟩
theorem UV{t:TypeId}{i:TI}(hi:TIok P t i)(h:(i.str||i.elm.isSome)=true):F9 P t=true:=by
 rw[YD]at h
 unfold F9
 rcases h with h|h
 ·have:=hi.str h
  unfold F2 at this
  split at this
  ·rename_i a _;rw[a]
  ·cases this
 ·obtain⟨e,he⟩:=YM.1 h
  obtain⟨b,c⟩:=e
  have:=(CR (hi.elm _ he)).1
  rw[this]
theorem NY{t:TypeId}{i:TI}(hi:TIok P t i)(y:B7 r H H')(p:∀b,g=some b→b=true){x:AV}(h:HO i H x g a K):CC P H' t (ren r x) (KR r K):=by
 unfold HO at h
 cases x<;>simp only at h<;>try exact h.elim
 case iptr cs off=>
  simp only[ren,CC,hi.agg,hi.siz]
  split at h
  ·rename_i he
   rw[he]
   split at h
   ·rename_i c d f
    obtain⟨m,n⟩:=OE _ _ _ f
    have d:=Yd d
    rw[Es]at n
    exact⟨by omega,by omega,.mk' h (by rw[m,ren,Fv])⟩
   grind
  ·rename_i he
   rw[he]
   rw[Bk]at h
   simp only
   split at h
   ·rename_i c o;simp only[o];exact .mk' h rfl
   grind
 case ptr k q off=>
  simp only[ren,CC,hi.agg,hi.siz]
  split at h
  ·rename_i hl
   obtain⟨s,u,z,A,v⟩:=y.at hl
   refine⟨s,u,?_⟩
   rw[v]
   split at h
   ·split at h
    ·rename_i he
     rw[he]
     split at h
     ·rename_i c d f
      obtain⟨m,n⟩:=OE _ _ _ f
      have d:=Yd d
      rw[Es]at n
      exact⟨by omega,by rw[Bx];omega,.mk' h (by rw[ren,CL,Da,m])⟩
     grind
    ·rename_i he
     rw[he]
     rw[Bk]at h
     split at h
     ·rename_i c o;simp only[ED,o,YQ];exact .mk' h rfl
     grind
   ·split at h
    ·rename_i he
     rw[he]
     split at h
     ·rename_i c B d f
      have d:=Yd d
      have f:=Ya f
      have j:D0 _ _ _:=AW p h.1
      unfold D0 at j
      rw[f]at j
      have w:=congrArg List.length j
      rw[Y8,Es]at w
      exact⟨by omega,by rw[Bx];omega,.mk' h.2 (by rw[ren,CL,Da,j])⟩
     grind
    ·rename_i he
     rw[he]
     split at h
     ·rename_i x
      have j:D0 _ _ _:=AW p h.1
      unfold D0 at j
      have e:(H k).cells[off]?=some x:=by
       have:=congrArg (fun l=>l[0]?) j
       grind
      simp only[ED,e,YQ]
      exact .mk' h.2 rfl
     grind
   grind
  ·grind
theorem La{t:TypeId}{i:TI}(hi:TIok P t i){f:Nat}{x:Nat×Nat×Bool}(h:AS i.fld f=some x):fld P t f=some (x.1,x.2.1)∧H3 P t f=some x:=by
 rw[Bk]at h;exact hi.fld f x h
theorem Z3{t:TypeId}{i:TI}(hi:TIok P t i)(j:B7 r H H'){f:Nat}{x:AV}(h:Ku i H f x a K):CM P H' t f (ren r x) (KR r K):=by
 unfold Ku at h
 split at h
 ·rename_i o n b k
  have e:=(La hi k).1
  split at h
  ·rename_i c
   have c:=Yd c
   unfold CM
   rw[e]
   split at h
   ·simp only[ren];exact⟨by omega,.mk' h rfl⟩
   ·split at h
    ·rename_i hl
     obtain⟨d,g,_⟩:=j.at hl
     simp only[ren];exact⟨by omega,d,g,.mk' h rfl⟩
    grind
   grind
  grind
 grind
theorem aK{t:TypeId}{i:TI}(hi:TIok P t i){f:Nat}{x:AV}(h:Lg i f x a K):CS P t f (ren r x) (KR r K):=by
 unfold Lg at h
 rw[dc]
 split at h
 ·rename_i o n cs b
  rw[(La hi b).2]
  split at h
  ·rename_i d
   have d:=Yd d
   simp only[ren,Jy]
   exact⟨by omega,.mk' h (by rw[ren,CL,Da])⟩
  grind
 ·rename_i o n cs b
  rw[(La hi b).2]
  rw[Bk]at h
  split at h
  ·rename_i c e
   simp only[ren,Jy,ED,e,YQ]
   exact .mk' h rfl
  grind
 grind
theorem TH{t:TypeId}{q:Nat×Nat}(h:Dn P t=some q):elm P t=none:=by
 unfold Dn at h
 unfold elm
 split at h
 ·rename_i a;rw[a]
 ·cases h
theorem Z0{t:TypeId}{i:TI}(hi:TIok P t i)(w:B7 r H H')(y:∀b,g=some b→b=true){x j:AV}(h:Kx i H x j g a K):Cb P H' t (ren r x) (ren r j) (KR r K):=by
 unfold Kx at h
 split at h
 ·rename_i e sz k n he
  have he:=hi.elm _ he
  split at h
  ·rename_i B e' q
   split at h
   ·rename_i c d
    have c:=Ya c
    have d:=Yd d
    obtain⟨s,u⟩:FN _ _ _:=AW y h.1
    simp only[ren,Cb,he]
    refine⟨s,?_⟩
    rw[u]
    exact⟨c,by omega,.mk' h.2 rfl⟩
   grind
  ·rename_i k q off len o E
   split at h
   ·rename_i hl c d
    have c:=Ya c
    have d:=Yd d
    obtain⟨l,p,C,z,D⟩:=w.at hl
    obtain⟨s,u,A⟩:HY _ _ _ _ _:=AW y h.1
    simp only[ren,Cb,he]
    exact⟨s,u,l,p,by rw[z,c],by omega,.mk' h.2 (by rw[ren,A])⟩
   grind
  grind
 ·rename_i k n he
  split at h
  ·rename_i m sz cs off v
   split at h
   ·rename_i c d
    have c:=Yd c
    have d:=Yd d
    have f:=hi.arr.trans v
    simp only[ren,Cb,TH f,f]
    exact⟨Int.natCast_nonneg n,by show(n:Int)<m;omega,by omega,.mk' h rfl⟩
   grind
  ·rename_i m sz k q off v
   split at h
   ·rename_i hl c d
    have c:=Yd c
    have d:=Yd d
    have f:=hi.arr.trans v
    obtain⟨l,p,_⟩:=w.at hl
    simp only[ren,Cb,TH f,f]
    exact⟨Int.natCast_nonneg n,by show(n:Int)<m;omega,by omega,l,p,.mk' h rfl⟩
   grind
  grind
 grind
theorem aP{t:TypeId}{i:TI}(hi:TIok P t i)(m:∀b,g=some b→b=true){x j:AV}(h:Lk i x j g a K):De P t (ren r x) (ren r j) (KR r K):=by
 unfold Lk at h
 split at h
 ·rename_i s k n b q
  split at h
  ·rename_i d
   have d:=Ya d
   obtain⟨e,c,f,l⟩:ZB _ _ _:=AW m h.1
   simp only[ren,De]
   refine⟨by rw[hi.kin];exact d,e,?_⟩
   rw[f]
   exact .mk' h.2 (by rw[ren,l])
  grind
 grind
theorem cE{op:BinOp}{k:IntKind}{x y:Int}(c:∀b,g=some b→b=true)(h:L1 op k x y g a K):DO op k x y (KR r K):=by
 unfold L1 at h
 cases op<;>simp only at h<;>try exact h.elim
 all_goals simp only[DO]
 case eql=>exact .mk' h rfl
 case neq=>exact .mk' h rfl
 case lss=>exact .mk' h rfl
 case leq=>exact .mk' h rfl
 case gtr=>exact .mk' h rfl
 case geq=>exact .mk' h rfl
 case add|sub|mul=>
  split at h
  ·have e:Br _ _ _:=AW c h.1
   unfold Br at e
   rw[e];exact .mk' h.2 rfl
  ·grind
 case and|or|xor=>
  split at h
  ·have e:A0 _ _:=AW c h.1
   unfold A0 at e
   rw[e];exact .mk' h.2 rfl
  ·grind
 case quo=>
  split at h
  ·have e:Br _ _ _:=AW c h.2.1
   unfold Br at e
   rw[e];exact⟨AW c h.1,.mk' h.2.2 rfl⟩
  ·grind
 case rem=>
  split at h
  ·have e:A0 _ _:=AW c h.2.1
   unfold A0 at e
   rw[e];exact⟨AW c h.1,.mk' h.2.2 rfl⟩
  ·grind
 case shr=>
  split at h
  ·have e:A0 _ _:=AW c h.2.1
   unfold A0 at e
   rw[e];exact⟨AW c h.1,.mk' h.2.2 rfl⟩
  ·grind
 case shl=>
  split at h
  ·have e:Br _ _ _:=AW c h.2.1
   unfold Br at e
   rw[e];exact⟨AW c h.1,.mk' h.2.2 rfl⟩
  ·grind
theorem bO{op:BinOp}{x y:ByteArray}(c:∀b,g=some b→b=true)(h:Mk op x y g a K):DN op x y (KR r K):=by
 unfold Mk at h
 cases op<;>simp only at h<;>try exact h.elim
 all_goals simp only[DN]
 case add=>exact⟨AW c h.1,.mk' h.2 rfl⟩
 all_goals exact .mk' h rfl
theorem Sv{neg:Bool}{x:AV}(i:B7 r H H')(h:H2 H neg x a K):Ce H' neg (ren r x) (KR r K):=by
 unfold H2 at h
 split at h
 ·simp only[ren,Ce];exact fun b=>.mk' (h b) rfl
 ·rename_i c
  cases c with
  |nil=>simp only[ren,Ce];exact fun b=>.mk' (h b (fun e=>absurd rfl e)) rfl
  |cons e c=>simp only[ren,Ce];exact .mk' (h neg (fun _=>rfl)) rfl
 ·rename_i k q off n
  split at h
  ·rename_i hl
   obtain⟨f,g,_⟩:=i.at hl
   simp only[ren,Ce]
   exact⟨⟨f,g⟩,fun d=>.mk' (h neg (fun _=>rfl)) rfl,fun d b=>.mk' (h b (fun e=>absurd d e)) rfl⟩
  grind
 grind
theorem SW:∀(ks:List Nat) (xs ys:List AV) (b:Bool),CD ks xs ys=some b→CD ks (Ae r xs) (Ae r ys)=some b
 |[],[],[],b,h=>by simpa[Ae]using h
 |k::ks,x::xs,y::ys,b,h=>by
  cases x<;>cases y<;>simp only[CD]at h<;>try (cases h;done)
  rename_i x y
  simp only[Ae,ren,CD]
  split at h
  ·rename_i d e a c
   simp only[a,SW ks xs ys _ c]
   exact h
  ·cases h
 |[],[],_::_,b,h=>by simp[CD]at h
 |[],_::_,_,b,h=>by simp[CD]at h
 |_::_,[],_,b,h=>by simp[CD]at h
 |_::_,x::_,[],b,h=>by cases x<;>simp[CD]at h
theorem gN{H:Hp}{op:BinOp}{t:TypeId}{a:Bool}{x:AV}{K:AV→Prop}:BB P H op t a x .e0 K=(a=true∧kin P t=4∧match op with|.eql=>Ce H false x K|.neq=>Ce H true x K|_=>False):=by
 unfold BB
 grind
theorem cZ{t:TypeId}{i:TI}(hi:TIok P t i)(e:B7 r H H')(f:∀b,g=some b→b=true){op:BinOp}{j:Bool}{x y:AV}(h:Me i H op j x y g a K):BB P H' op t j (ren r x) (ren r y) (KR r K):=by
 unfold Me at h
 split at h
 ·split at h
  ·rename_i c
   simp only[ren,BB]
   exact⟨jh c,cE f h⟩
  grind
 ·simp only[ren,BB];exact bO f h
 ·split at h
  ·rename_i c
   simp only[ren,BB]
   refine⟨by rw[hi.kin];exact Ya c,?_⟩
   split at h
   ·exact .mk' h rfl
   ·exact .mk' h rfl
   grind
  grind
 ·rename_i xs ys
  split at h
  ·rename_i ks d
   split at h
   ·rename_i b l
    simp only[ren,BB,Ec,hi.eqt _ d,SW _ _ _ _ l]
    split at h
    ·exact .mk' h rfl
    ·exact .mk' h rfl
    grind
   grind
  grind
 ·rw[show ren r .e0=.e0 from by simp[ren],gN]
  split at h
  ·rename_i m k
   refine⟨rfl,by rw[hi.kin];exact Ya k,?_⟩
   split at h
   ·exact Sv e h
   ·exact Sv e h
   grind
  grind
 grind
theorem dM{op:UnOp}{x:AV}(c:∀b,g=some b→b=true)(h:MN op x g a K):CJ op (ren r x) (KR r K):=by
 unfold MN at h
 split at h
 ·simp only[ren,CJ];exact .mk' h rfl
 ·split at h
  ·have e:Br _ _ _:=AW c h.1
   unfold Br at e
   simp only[ren,CJ]
   rw[e];exact .mk' h.2 rfl
  grind
 ·split at h
  ·have e:A0 _ _:=AW c h.1
   unfold A0 at e
   simp only[ren,CJ]
   rw[e];exact .mk' h.2 rfl
  grind
 grind
theorem bu{s d:TypeId}{i j:TI}(hi:TIok P s i)(k:TIok P d j){x:AV}(l:∀b,g=some b→b=true)(h:LU i j x g a K):CV P s d (ren r x) (KR r K):=by
 unfold LU at h
 split at h
 ·split at h
  ·rename_i q n p k' o m t c f
   have e:Br _ _ _:=AW l h.1
   unfold Br at e
   simp only[ren,CV,hi.ik _ c,k.ik _ f]
   rw[e];exact .mk' h.2 rfl
  grind
 ·split at h
  ·rename_i c f
   simp only[ren,CV,EB (by rw[hi.kin];exact Ya c),EB (by rw[k.kin];exact Ya f)]
   exact .mk' h rfl
  grind
 grind
theorem HC{d l:Nat}{o a:Option AV}(h:Ck d o l)(b:a=o.map (ren r)):Cs d a=some l:=by
 subst b
 unfold Ck at h
 split at h
 ·simp[Cs,h]
 ·subst h
  simp[Cs,ren]
 grind
theorem aR{t:TypeId}{i:TI}(hi:TIok P t i)(B:B7 r H H')(c:∀b,g=some b→b=true){x:AV}{lo q:Option AV}{v:Bool}(h:K8 i H x lo q v g a K):
  CB P H' t (ren r x) (lo.map (ren r)) (q.map (ren r)) v (KR r K):=by
 unfold K8 at h
 split at h
 ·split at h
  ·split at h
   ·rename_i C
    obtain⟨m,n,o,p⟩:=h
    have f:=HC (r:=r) (AW c m) rfl
    have j:=HC (r:=r) (AW c n) rfl
    have d:Du _ _ _:=AW c o
    simp only[ren,CB,f,j]
    exact⟨by rw[hi.kin];exact Ya C,trivial,d.1,d.2,.mk' p rfl⟩
   grind
  ·split at h
   ·rename_i e sz w D he
    split at h
    ·rename_i l
     have l:=Yd l
     obtain⟨m,n,o,p,u⟩:=h
     have f:=HC (r:=r) (AW c m) rfl
     have j:=HC (r:=r) (AW c n) rfl
     have d:Du _ _ _:=AW c o
     have k:JZ _ _ _ _ _:=AW c p
     simp only[ren,CB,f,j,hi.elm _ he]
     exact⟨trivial,by omega,k.1,d.1,d.2,.mk' u (by rw[ren,k.2])⟩
    grind
   grind
  ·split at h
   ·rename_i e sz I G D he hl
    split at h
    ·rename_i l s
     have l:=Yd l
     obtain⟨y,z,E,A,F⟩:=B.at hl
     obtain⟨m,n,o,p,u⟩:=h
     have f:=HC (r:=r) (AW c m) rfl
     have j:=HC (r:=r) (AW c n) rfl
     have d:Du _ _ _:=AW c o
     have k:M3 _ _ _ _ _:=AW c p
     simp only[ren,CB,f,j,hi.elm _ he]
     exact⟨trivial,y,z,by omega,by rw[A];exact Ya s,d.1,d.2,.mk' u (by rw[ren,k.1,k.2])⟩
    grind
   grind
  grind
 grind
theorem cA{t:TypeId}{i:TI}(hi:TIok P t i)(k:B7 r H H')(d:∀b,g=some b→b=true){x:AV}(h:L2 i H x g a K):Cd P H' t (ren r x) (KR r K):=by
 unfold L2 at h
 split at h
 ·split at h
  ·rename_i c
   have e:A0 _ _:=AW d h.1
   unfold A0 at e
   simp only[ren,Cd,hi.kin]
   exact⟨Ya c,.mk' h.2 (by rw[ren,e])⟩
  grind
 ·split at h
  ·rename_i c
   have e:A0 _ _:=AW d h.1
   unfold A0 at e
   simp only[ren,Cd,hi.kin]
   exact⟨Ya c,.mk' h.2 (by rw[ren,e])⟩
  grind
 ·split at h
  ·rename_i c
   have e:A0 _ _:=AW d h.1
   unfold A0 at e
   simp only[ren,Cd,hi.kin]
   exact⟨Ya c,.mk' h.2 (by rw[ren,e])⟩
  grind
 ·split at h
  ·rename_i c hl
   have e:A0 _ _:=AW d h.1
   unfold A0 at e
   obtain⟨f,j,_⟩:=k.at hl
   simp only[ren,Cd,hi.kin]
   exact⟨Ya c,f,j,.mk' h.2 (by rw[ren,e])⟩
  grind
 grind
theorem bQ(a:B7 r H H'){x:AV}{y:Bool×List (List D)}(h:Pc H x=some y):HK H' (ren r x)=some y:=by
 unfold Pc at h
 split at h
 ·simp only[ren,HK];exact h
 ·split at h
  ·rename_i k g _ _ q b hl he
   obtain⟨c,d,e,_,_⟩:=a.at hl
   simp only[ren,HK]
   grind
  ·cases h
 ·cases h
theorem TZ(q:Bool)(ds:List D):ren r (Ie q ds)=Ie q ds:=by
 unfold Ie
 split<;>simp[ren,Fv]
theorem fG(a q:Bool)(ds:List D)(ok:Bool):ren r (Ic a q ds ok)=Ic a q ds ok:=by
 unfold Ic
 cases a
 ·exact TZ q ds
 ·simp only[ren,Ae,TZ]
theorem bI{t:TypeId}{i:TI}(hi:TIok P t i)(k:B7 r H H')(l:∀b,g=some b→b=true){x y:AV}{c:Bool}(h:Lw i H x y c g a K):DJ P H' t (ren r x) (ren r y) c (KR r K):=by
 unfold Lw at h
 split at h
 ·rename_i q z p o s ok vs n f j
  split at h
  ·rename_i m
   obtain⟨d,e⟩:Vg _ _ _ _ _:=AW l h.1
   simp only[DJ,hi.mp _ f,bQ k j,ren]
   exact⟨iK m,.mk' h.2 (by rw[d,e,fG])⟩
  grind
 grind
theorem IT{x:AV}{vs:List AV}(h:BL x=some vs)(hx:∀f xs ys,x≠.fn (.yield f) xs ys):BL (ren r x)=some (Ae r vs):=by
 cases x<;>simp only[BL,Yh]at h<;>try (cases h;done)
 case fn f xs ys=>
  subst h
  cases f with
  |yield i=>exact absurd rfl (hx i xs ys)
  |_=>simp[ren,Ae,BL]
 all_goals(subst h;simp[ren,Ae,BL])
theorem I4{x:AV}(h:FP x=true):∀f xs ys,x≠.fn (.yield f) xs ys:=by
 rintro f xs ys rfl;cases h
theorem jd{t:TypeId}{i:TI}(hi:TIok P t i){f o n:Nat}(h:Qk i f=some (o,n)):Ga P t f=some (o,n):=by
 unfold Qk at h
 unfold Ga
 rw[hi.arr]
 split at h
 ·rename_i m sz a
  rw[a]
  exact h
 ·rename_i a
  rw[a]
  split at h
  ·rename_i e d b c
   simp only[Yh,DX]at h
   obtain⟨rfl,rfl⟩:=h
   exact(La hi c).1
  ·cases h
theorem Sn{t:TypeId}{i:TI}(hi:TIok P t i):∀(ps:List (Nat×AV)) (z cs:List AV),(∀p∈ps,FP p.2=true)→Jn i z ps=some cs→Bu (Ga P t) (Ae r z) (ps.map fun p=>(p.1,ren r p.2))=some (Ae r cs)
 |[],z,cs,_,h=>by
  simp only[Jn,Yh]at h
  subst h
  simp[Bu]
 |(f,v)::ps,z,cs,e,h=>by
  simp only[Jn]at h
  split at h
  ·rename_i off size vs a g
   split at h
   ·rename_i c d
    have c:=Ya c
    have d:=Yd d
    have b:=IT (r:=r) g (I4 (e (f,v) (YH ..)))
    simp only[Y6,Bu,jd hi a,b,Bx]
    rw[Yq (by omega)]
    have:=Sn hi ps _ cs (fun p a=>e p (Yy _ a)) h
    rw[←this]
    simp only[DZ,Da,CL]
   ·cases h
  ·cases h
theorem aV{t:TypeId}{i:TI}(hi:TIok P t i){parts:List (Nat×AV)}(e:∀p∈parts,FP p.2=true)(f:∀z,i.zer=some z→Ae r z=z)(h:Lh i parts a K):
  Df P t (parts.map fun p=>(p.1,ren r p.2)) (KR r K):=by
 unfold Lh at h
 split at h
 ·rename_i z b c
  split at h
  ·rename_i cs d
   have:=Sn (r:=r) hi _ _ _ e d
   unfold Df
   rw[hi.zer _ c]
   rw[f z c]at this
   simp only[this]
   refine⟨?_,.mk' h rfl⟩
   rw[YD]at b⊢
   rcases b with b|b
   ·exact .inl (hi.str b)
   ·refine .inr ?_
    unfold Mq
    rw[hi.arr]
    exact b
  grind
 grind
theorem fb{x:AV}(h:x.flat=true):ren r x=x:=by cases x<;>first|(simp[ren];done)|cases h
theorem Gq{z:List AV}(h:z.all AV.flat=true):Ae r z=z:=by
 induction z with
 |nil=>simp[Ae]
 |cons x z a=>
  simp only[Fg,Yc]at h
  rw[Ae,fb h.1,a h.2]
theorem Ss{c x y:Operand}{ρ d:Operand→AV}{t:Bool}(e:ρ c=.d (.bool t))(b:d c=ren r (ρ c))(hx:t=true→d x=ren r (ρ x))(hy:t=false→d y=ren r (ρ y))(h:tV T H (.pick c x y) ρ g a K):
  AI P H' (.pick c x y) d (KR r K):=by
 simp only[tV,e]at h
 rw[e]at b
 simp only[ren]at b
 simp only[AI,b]
 rw[fc]at h
 cases t
 ·exact .mk' h (by simp[hy rfl])
 ·exact .mk' h (by simp[hx rfl])
theorem O0{ρ a:Operand→AV}{xs:List Operand}(h:∀x∈xs,a x=ren r (ρ x)):xs.map a=Ae r (xs.map ρ):=by
 rw[Dc,Eo]
 exact Y1 h
theorem Tg{ρ a:Operand→AV}{o:Option Operand}(h:∀x,o=some x→a x=ren r (ρ x)):o.map a=(o.map ρ).map (ren r):=by
 cases o with
 |none=>rfl
 |some x=>simp[h x rfl]
theorem SP{r:Ren}{b:Bool}{x y:AV}{a:AT}{K:AV→AT→Prop}(h:Cw b x y (fun v=>K v a)):Cw b (ren r x) (ren r y) (KR r K):=by
 unfold Cw at h
 split at h
 ·simp only[ren,Cw];exact .mk' h rfl
 grind
theorem ei(n:AL P T)(E:B7 r H H')(A:∀b,g=some b→b=true){op:Op}{ρ w:Operand→AV}(Y:∀x∈op.operands,w x=ren r (ρ x))(h:tV T H op ρ g a K):AI P H' op w (KR r K):=by
 have get:∀{x:Operand},x∈op.operands→w x=ren r (ρ x):=fun hx=>Y _ hx
 cases op<;>simp only[tV]at h<;>try exact h.elim
 case move x=>exact .mk' h (get (by simp[Op.operands]))
 case assign x=>exact .mk' h (get (by simp[Op.operands]))
 case pick c x y=>
  split at h
  ·rename_i t l
   exact Ss (a:=a) (g:=g) (T:=T) (H:=H) l (get (by simp[Op.operands])) (fun _=>get (by simp[Op.operands])) (fun _=>get (by simp[Op.operands])) (by simp only[tV,l];exact h)
  ·grind
 case load t x=>
  split at h
  ·rename_i i hi;simp only[AI];rw[get (x:=x) (by simp[Op.operands])];exact NY (n _ _ hi) E A h
  ·grind
 case fieldAddr t x f=>
  split at h
  ·rename_i i hi;simp only[AI];rw[get (x:=x) (by simp[Op.operands])];exact Z3 (n _ _ hi) E h
  ·grind
 case field t x f=>
  split at h
  ·rename_i i hi;simp only[AI];rw[get (x:=x) (by simp[Op.operands])];exact aK (n _ _ hi) h
  ·grind
 case indexAddr t x j=>
  split at h
  ·rename_i i hi;simp only[AI];rw[get (x:=x) (by simp[Op.operands]),get (x:=j) (by simp[Op.operands])];exact Z0 (n _ _ hi) E A h
  ·grind
 case index t x j=>
  split at h
  ·rename_i i hi;simp only[AI];rw[get (x:=x) (by simp[Op.operands]),get (x:=j) (by simp[Op.operands])];exact aP (n _ _ hi) A h
  ·grind
 case makeInterface t x=>
  split at h
  case h_2=>exact h.elim
  rename_i i hi
  have F:(i.str||i.elm.isSome)=true→F9 P t=true:=UV (n _ _ hi)
  simp only[AI]
  rw[get (x:=x) (by simp[Op.operands])]
  split at h
  ·rename_i xs D hx
   rw[hx]
   simp only[ren]
   split at h
   case h_2=>exact h.elim
   rename_i ds Q
   have e:=KY Q
   subst e
   rw[Fv,Q]
   exact⟨F D,.mk' h rfl⟩
  ·rename_i y D hx
   rw[hx]
   simp only[ren]
   exact⟨F D,.mk' h rfl⟩
  ·exact h.elim
 case typeAssert x u t ok=>
  split at h
  case h_2=>exact h.elim
  rename_i i hi
  have F:(i.str||i.elm.isSome)=true→F9 P t=true:=UV (n _ _ hi)
  simp only[AI]
  rw[get (x:=x) (by simp[Op.operands])]
  split at h
  case h_3=>exact h.elim
  case h_2 D hx=>
   rw[hx]
   simp only[ren]
   split at h
   case h_2=>exact h.elim
   rename_i B
   refine⟨F D,?_,rfl,.mk' h (by simp only[ren,Ae])⟩
   obtain⟨z,B⟩:=YM.1 B
   rw[(n _ _ hi).zer _ B]
   rfl
  rename_i u ds q D hx
  rw[hx]
  simp only[ren]
  split at h
  case h_3=>exact h.elim
  case h_2 y O G=>
   rw[G,O]
   split at h
   case h_2=>exact h.elim
   rename_i B
   refine⟨F D,?_,rfl,.mk' h (by simp only[ren,Ae])⟩
   obtain⟨z,B⟩:=YM.1 B
   rw[(n _ _ hi).zer _ B]
   rfl
  rename_i v O G
  rw[G,O]
  have I:ren r v=v:=by
   cases q with
   |true=>cases G;simp only[ren,Fv]
   |false=>
    match ds,G with
    |[d],G=>cases G;simp only[ren]
  refine⟨F D,.mk' h ?_⟩
  cases ok with
  |true=>simp only[cond,ren,Ae,I]
  |false=>exact I.symm
 case extract x j=>
  simp only[AI]
  rw[get (x:=x) (by simp[Op.operands])]
  split at h
  ·rename_i vs hx
   rw[hx]
   simp only[ren,ED]
   rw[Bk]at h
   split at h
   ·rename_i y hy;rw[hy];exact .mk' h rfl
   grind
  ·grind
 case binOp o t x y u=>
  split at h
  ·rename_i i hi;simp only[AI];rw[get (x:=x) (by simp[Op.operands]),get (x:=y) (by simp[Op.operands])];exact cZ (n _ _ hi) E A h
  ·grind
 case unOp o t x=>simp only[AI];rw[get (x:=x) (by simp[Op.operands])];exact dM A h
 case nilCheck x=>
  split at h
  ·rename_i k q off hx
   split at h
   ·rename_i hl
    simp only[AI]
    rw[get (x:=x) (by simp[Op.operands]),hx]
    obtain⟨g1,R,_,_,_⟩:=E.at hl
    simp only[ren,F0]
    exact⟨g1.symm▸rfl,R,.mk' h (by simp[ren])⟩
   grind
  ·rename_i cs off hx
   simp only[AI]
   rw[get (x:=x) (by simp[Op.operands]),hx]
   simp only[ren,F0]
   exact .mk' h (by simp[ren])
  ·grind
 case convert s d x=>
  split at h
  ·rename_i i j hi W;simp only[AI];rw[get (x:=x) (by simp[Op.operands])];exact bu (n _ _ hi) (n _ _ W) A h
  ·grind
 case makeFunc fn first C=>
  have m:first.toList.map w=Ae r (first.toList.map ρ):=O0 fun x hx=>get (by simp only[Op.operands,Iu];exact .inl (by simpa using hx))
  have J:C.toList.map w=Ae r (C.toList.map ρ):=O0 fun x hx=>get (by simp only[Op.operands,Iu];exact .inr (by simpa using hx))
  simp only[AI]
  rw[m,J]
  split at h
  ·grind
  ·rename_i M
   refine .mk' h ?_
   cases fn<;>first|exact absurd rfl (M _)|simp[ren]
 case slice t x lo hi mx=>
  split at h
  ·rename_i i L
   simp only[AI]
   rw[get (x:=x) (by simp[Op.operands]),Tg (o:=lo) (fun y hy=>get (by subst hy;simp[Op.operands])),Tg (o:=hi) (fun y hy=>get (by subst hy;simp[Op.operands]))]
   exact aR (n _ _ L) E A h
  ·grind
 case build t parts=>
  split at h
  ·rename_i i hi F
   simp only[AI]
   have e:(parts.toList.map fun p=>(p.1,w p.2))=(parts.toList.map fun p=>(p.1,ρ p.2)).map fun p=>(p.1,ren r p.2):=by
    rw[Eo]
    refine Y1 fun p N=>?_
    simp only[Function.comp]
    rw[get (x:=p.2) (by simp only[Op.operands,Iv,YO];exact⟨p,N,rfl⟩)]
   rw[e]
   refine aV (n _ _ hi) (fun p N=>?_) (fun z B=>Gq ((n _ _ hi).flt z B)) h
   obtain⟨q,hq,rfl⟩:=YO.1 N
   grind
  ·grind
 case lookup t x y Z=>
  split at h
  ·rename_i i hi;simp only[AI];rw[get (x:=x) (by simp[Op.operands]),get (x:=y) (by simp[Op.operands])];exact bI (n _ _ hi) E A h
  ·grind
 case call c=>
  split at h
  ·rename_i x t l hx X
   split at h
   ·rename_i i hi
    have m:c.args=#[x]:=BO (by simpa using hx)
    have J:c.argTypes=#[t]:=BO (by simpa using X)
    simp only[AI,l,m,J]
    show 1=1∧Cd P H' t (w x) (KR r K)
    rw[get (x:=x) (by simp[Op.operands,Call.operands,l,m])]
    exact⟨rfl,cA (n _ _ hi) E A h⟩
   grind
  ·rename_i x y l hx
   have m:c.args=#[x,y]:=BO (by simpa using hx)
   simp only[AI,l,m]
   show Cw false (w x) (w y) (KR r K)
   rw[get (x:=x) (by simp[Op.operands,Call.operands,l,m]),get (x:=y) (by simp[Op.operands,Call.operands,l,m])]
   exact SP h
  ·rename_i x y l hx
   have m:c.args=#[x,y]:=BO (by simpa using hx)
   simp only[AI,l,m]
   show Cw true (w x) (w y) (KR r K)
   rw[get (x:=x) (by simp[Op.operands,Call.operands,l,m]),get (x:=y) (by simp[Op.operands,Call.operands,l,m])]
   exact SP h
  ·rename_i x y z l hx
   have m:c.args=#[x,y,z]:=BO (by simpa using hx)
   simp only[AI,l,m]
   show Ed true (w x) (w y) (w z) (KR r K)
   rw[get (x:=x) (by simp[Op.operands,Call.operands,l,m]),get (x:=y) (by simp[Op.operands,Call.operands,l,m]),get (x:=z) (by simp[Op.operands,Call.operands,l,m])]
   unfold Ed at h
   split at h
   ·rename_i S U V
    rw[S,U,V]
    simp only[ren,Ed];exact .mk' h rfl
   grind
  ·grind
end
abbrev BI:=List (Nat×Bool)
abbrev AR:=List (Nat×BI)
def lk:AR→Nat→BI
 |[],_=>[]
 |(i,c)::r,j=>match Nat.beq i j with|true=>c|false=>lk r j
def JH(t:Bool):Bool→Bool
 |true=>t
 |false=>!t
theorem Om{t b:Bool}:JH t b=true↔t=b:=by cases t<;>cases b<;>simp[JH]
def GW:BI→BI→Bool
 |[],[]=>true
 |(i,a)::r,(j,b)::q=>Nat.beq i j&&JH a b&&GW r q
 |_,_=>false
theorem O5:∀{a b:BI},GW a b=true→a=b
 |[],[],_=>rfl
 |(i,a)::r,(j,b)::q,h=>by
  simp only[GW,Yc]at h
  rw[Ya h.1.1,Om.1 h.1.2,O5 h.2]
 |[],_::_,h=>by simp[GW]at h
 |_::_,[],h=>by simp[GW]at h
def Ma(a:BI):BI→Bool
 |[]=>GW a []
 |q::b=>GW a (q::b)||Ma a b
theorem TF{a:BI}:∀{b:BI},Ma a b=true→∀q∈a,q∈b
 |[],h,q,c=>by rw[O5 h]at c;exact c
 |p::b,h,q,c=>by
  simp only[Ma,YD]at h
  rcases h with h|h
  ·rw[O5 h]at c;exact c
  ·exact Yy _ (TF h q c)
def BK(s:Nat→AV)(c:BI):Prop:=∀q∈c,s q.1=.d (.bool q.2)
def DG(s:Nat→AV):BI→Option Bool
 |[]=>some true
 |[(d,b)]=>match s d with|.d (.bool t)=>some (JH t b)|_=>none
 |(d,b)::r=>match s d,DG s r with|.d (.bool t),some c=>some (c&&JH t b)|_,_=>none
theorem Fr{s:Nat→AV}:∀{c:BI} {g:Bool},DG s c=some g→(g=true↔BK s c)
 |[],g,h=>by simp only[DG,Yh]at h;subst h;simp[BK]
 |[(d,b)],g,h=>by
  simp only[DG]at h
  split at h
  ·rename_i t f
   simp only[Yh]at h
   subst h
   rw[Om]
   simp[BK,f]
  ·cases h
 |(d,b)::q::r,g,h=>by
  simp only[DG]at h
  split at h
  ·rename_i t c f i
   simp only[Yh]at h
   subst h
   have j:=Fr i
   rw[Yc,j,Om]
   constructor
   ·rintro⟨e,rfl⟩ p a
    rcases YJ.1 a with rfl|a
    ·exact f
    ·exact e p a
   ·intro e
    refine⟨fun p a=>e p (Yy _ a),?_⟩
    have:=e (d,b) (YH ..)
    grind
  ·cases h
def GD(e:Nat)(c:BI):Bool:=c.all fun q=>!Nat.beq q.1 e
def fresh(e:Nat)(env:AR):Bool:=env.all fun p=>GD e p.2
theorem TG{s:Nat→AV}{e:Nat}{v:AV}{c:BI}(h:GD e c=true):BK (upd s e v) c↔BK s c:=by
 have key:∀q∈c,upd s e v q.1=s q.1:=fun q a=>by
  have:=Yo.1 h q a
  unfold upd
  rw[Yq]
  intro he
  subst he
  simp at this
 constructor
 ·exact fun h q a=>(key q a)▸h q a
 ·exact fun h q a=>(key q a).trans (h q a)
theorem Tz{e:Nat}:∀{env:AR},fresh e env=true→∀j,GD e (lk env j)=true
 |[],_,j=>rfl
 |(i,c)::r,h,j=>by
  simp only[fresh,Fg,Yc]at h
  simp only[lk]
  split
  ·exact h.1
  ·exact Tz h.2 j
theorem O1{env:AR}{e:Nat}{c:BI}(j:Nat):lk ((e,c)::env) j=if j=e then c else lk env j:=by
 simp only[lk]
 by_cases h:j=e
 ·subst h;simp
 ·rw[Yq h]
  split
  ·rename_i a;exact absurd (Ya a).symm h
  ·rfl
def EX(env:AR)(c:BI):Operand→Bool
 |.tmp t=>Ma (lk env t) c
 |_=>true
def Bm(env:AR)(c:BI):Op→Bool
 |.pick (.tmp d) x y=>EX env c (.tmp d)&&EX env ((d,true)::c) x&&EX env ((d,false)::c) y
 |op=>op.operands.toList.all (EX env c)
structure RenOk (r:Ren) (l outs:Nat):Prop where
 own:∀d,r.κ (1,d)=(l+1,d)
 out:∀i,i<outs→(r.κ (0,i)).1≤l
 inj:∀i j,i<outs→j<outs→r.κ (0,i)=r.κ (0,j)→i=j
 no:∀k,r.no k→∃i,i<outs∧r.κ (0,i)=k
structure RG (r:Ren) (l outs:Nat) (env:AR) (τ σ:St):Prop where
 s:∀j,(BK τ.s (lk env j)→σ.s j=ren r (τ.s j))∧(¬BK τ.s (lk env j)→σ.s j=.tup [])
 h:B7 r τ.H σ.H
 g:∀d,(σ.H (l+1,d)).g=r.γ (1,d)+(τ.H (1,d)).g
 go:∀i,i<outs→(σ.H (r.κ (0,i))).g=r.γ (0,i)+(τ.H (0,i)).g
 k:∀k,(τ.H k).live=true→k.1=1∨(k.1=0∧k.2<outs)
 o:∀k:Aa,k.1≤l→¬r.no k→σ.H k=r.H0 k
def D9(P:Program)(l:Nat)(r:Ren)(f:FuncId)(xs:List AV)(c:List (Aa×Blk))(x:AV):Prop:=
 ∀a,(∀p∈c,p.2.live=true→a (r.κ p.1)=An r p.1 p.2)→(∀k:Aa,k.1≤l→¬r.no k→a k=r.H0 k)→Zbb P f (l+1) (Ae r xs) a (fun y b=>y=ren r x∧b=a)
def Je(P:Program)(l:Nat)(r:Ren)(i:Nat)(xs:List AV)(d:List (Aa×Blk))(x:AV):Prop:=
 ∃f first a,r.θ i=.fn (.func f) first a∧∀b,(∀p∈d,p.2.live=true→b (r.κ p.1)=An r p.1 p.2)→(∀k:Aa,k.1≤l→¬r.no k→b k=r.H0 k)→Zbb P f (l+1) (first++Ae r xs++a) b (fun y c=>y=ren r x∧c=b)
def LB(P:Program)(l:Nat)(r:Ren)(H:Hp)(f:AV)(xs:List AV)(g:Option Bool)(a:AT)(K:AV→AT→Prop):Prop:=
 match f,a with
 |.fn (.func i) first b,.call x ks a=>AQ g (D9 P l r i (first++xs++b) (ks.map fun k=>(k,H k)) x)∧K x a
 |.fn (.yield i) _ _,.call x ks a=>AQ g (Je P l r i xs (ks.map fun k=>(k,H k)) x)∧K x a
 |_,_=>False
def MC(T:Nat→Option TI)(τ:St)(t:TypeId)(len:Nat)(parts:List (Nat×Operand))(a:AT)(K:AV→AT→Prop):Prop:=
 match T t with
 |some i=>(match i.elm with
  |some (e,sz)=>(match Nat.ble 1 sz,len with
   |true,0=>(match parts with|[]=>K .e0 a|_=>False)
   |true,len+1=>(match T e,Nat.ble ((len+1)*sz) 16777216 with
    |some j,true=>(match j.zer with
     |some z=>(match Nat.beq z.length sz,Dm sz 0 (parts.map fun p=>(p.1,ev τ.s p.2))with
      |true,some es=>(match Nat.beq es.length (len+1)with|true=>K (.d (.list es)) a|false=>False)
      |_,_=>False)
     |none=>False)
    |_,_=>False)
   |_,_=>False)
  |none=>False)
 |none=>False
def pV(P:Program)(T:Nat→Option TI)(l:Nat)(r:Ren)(τ:St)(op:Op)(g:Option Bool)(a:AT)(K:AV→AT→Prop):Prop:=
 match op with
 |.call c=>match c.callee with
  |.value f=>LB P l r τ.H (ev τ.s f) (c.args.toList.map (ev τ.s)) g a K
  |_=>tV T τ.H op (ev τ.s) g a K
 |.buildSlice t len parts=>MC T τ t len parts.toList a K
 |op=>tV T τ.H op (ev τ.s) g a K
def CY(n d:Nat)(K:St→AT→Prop)(τ:St)(v:AV)(a:AT):Prop:=
 match Nat.ble (d+1) n with
 |true=>K ⟨upd τ.s d v,τ.H⟩ a
 |false=>False
section
variable {P:Program} {T:Nat→Option TI} {r:Ren} {l n outs:Nat} {env:AR} {τ σ:St} {g:Option Bool} {a:AT} {c:BI}
theorem jb(v:Value):ren r (cv v)=cv v:=by unfold cv;split<;>simp[ren]
theorem Gy(h:RG r l outs env τ σ)(hs:BK τ.s c){x:Operand}(hx:EX env c x=true):ev σ.s x=ren r (ev τ.s x):=by
 cases x with
 |tmp t=>exact(h.s t).1 fun q a=>hs q (TF hx q a)
 |const v=>exact(jb v).symm
 |global g=>simp[ev,ren]
 |func f=>simp[ev,ren,Ae]
theorem DA(h:RG r l outs env τ σ)(hs:BK τ.s c){op:Op}(hx:op.operands.toList.all (EX env c)=true):∀x∈op.operands,ev σ.s x=ren r (ev τ.s x):=
 fun x hm=>Gy h hs (Yo.1 hx x (by simpa using hm))
theorem U2(s:AL P T)(h:RG r l outs env τ σ)(hs:BK τ.s c)(u:∀b,g=some b→b=true){op:Op}(hx:Bm env c op=true){K:AV→AT→Prop}(i:tV T τ.H op (ev τ.s) g a K):
  AI P σ.H op (ev σ.s) (KR r K):=by
 unfold Bm at hx
 split at hx
 ·rename_i d x y
  simp only[Yc]at hx
  obtain⟨⟨n,o⟩,p⟩:=hx
  have f:=i
  simp only[tV]at f
  split at f
  ·rename_i t k
   have m:=Gy h hs n
   refine Ss (T:=T) (H:=τ.H) (g:=g) (a:=a) k m (fun e=>Gy h (c:=(d,true)::c) ?_ o) (fun e=>Gy h (c:=(d,false)::c) ?_ p) i
   all_goals
    subst e
    intro q j
    rcases YJ.1 j with rfl|j
    ·exact k
    ·exact hs q j
  grind
 ·exact ei s h.h u (DA h hs hx) i
theorem Ox(h:RG r l outs env τ σ)(hs:BK τ.s c)(s:∀b,g=some b→b=true){cl:Call}{f:Operand}(o:cl.callee=.value f)(hx:Bm env c (.call cl)=true){K:AV→AT→Prop}
  (e:LB P l r τ.H (ev τ.s f) (cl.args.toList.map (ev τ.s)) g a K):
  ∃i first d x j,ev σ.s f=.fn (.func i) first d∧Zbb P i (l+1) (first++cl.args.toList.map (ev σ.s)++d) σ.H (fun y t=>y=ren r x∧t=σ.H)∧K x j:=by
 have hx:(Op.call cl).operands.toList.all (EX env c)=true:=hx
 have q:=DA h hs hx f (by simp[Op.operands,Call.operands,o])
 have m:cl.args.toList.map (ev σ.s)=Ae r (cl.args.toList.map (ev τ.s)):=O0 fun x hm=>DA h hs hx x (by simp only[Op.operands,Call.operands,o,Iu];exact .inr (by simpa using hm))
 have n:∀ks:List Aa,∀p∈ks.map fun k=>(k,τ.H k),p.2.live=true→σ.H (r.κ p.1)=An r p.1 p.2:=fun ks p e hl=>by
  obtain⟨k,A,rfl⟩:=YO.1 e
  exact h.h k hl
 unfold LB at e
 split at e
 ·rename_i i first d x ks j he
  have v:D9 _ _ _ _ _ _ _:=AW s e.1
  refine⟨i,Ae r first,Ae r d,x,j,by rw[q,he];simp[ren],?_,e.2⟩
  rw[m,←DZ,←DZ]
  exact v σ.H (n ks) h.o
 ·rename_i i xs ys x ks j he
  obtain⟨u,first,d,w,z⟩:Je _ _ _ _ _ _ _:=AW s e.1
  refine⟨u,first,d,x,j,by rw[q,he];simp[ren,w],?_,e.2⟩
  rw[m]
  exact z σ.H (n ks) h.o
 grind
theorem RG.put(h:RG r l outs env τ σ){e:Nat}{ch:BI}(b:fresh e env=true)(c:GD e ch=true){v:AV}{y:AV}(hy:BK τ.s ch→y=ren r v)(d:¬BK τ.s ch→y=.tup []):
  RG r l outs ((e,ch)::env) ⟨upd τ.s e v,τ.H⟩ ⟨upd σ.s e y,σ.H⟩:=by
 refine⟨fun j=>?_,h.h,h.g,h.go,h.k,h.o⟩
 simp only
 rw[O1]
 by_cases a:j=e
 ·subst a
  rw[Yj rfl,TG c]
  simp only[upd,Yx]
  grind
 ·rw[Yq a,TG (Tz b j)]
  simp only[upd,Yq a]
  exact h.s j
end
section
variable {P:Program} {l n:Nat} {H:Hp} {m:Mu} {S:Nat→Prop} {w w':World} {s:Nat→AV} {a:Act}
theorem Ok.allocO(h:Ok l H m S w)(k:Aa)(O:k.1≤l)(b:Blk)(K:b.e.isO=true)(u:b.cells=[])(N:(H k).g<b.g)(o:Obj)(D:w'.heap=w.heap.push o)
  (J:F1 w' S w.heap.size b.e) (F:w'.os=w.os) (G:w'.tape=w.tape) (I:w'.output=w.output):
  Ok l (updH H k b) (AN m k ⟨w.heap.size,0,0⟩) S w'∧Ext l H m S w (updH H k b) (AN m k ⟨w.heap.size,0,0⟩) S w':=by
 have d:∀i,i<w.heap.size→w'.heap[i]?=w.heap[i]?:=fun i hi=>by rw[D,Hg,Yq (by omega)]
 have j:Ext l H m S w (updH H k b) (AN m k ⟨w.heap.size,0,0⟩) S w':=by
  refine⟨fun _ h=>h,fun i hi=>d i (h.sub i hi),fun q a=>?_,fun q a y hl=>?_,F,G,I,by rw[D];simp⟩
  ·by_cases e:q=k
   ·subst e;rw[Au];omega
   ·rw[Al _ _ e];exact Ye _
  ·by_cases e:q=k
   ·subst e;rw[Au]at y;omega
   ·rw[Al _ _ e]at hl⊢;rw[AC _ _ e];exact⟨hl,rfl,rfl⟩
 have B:∀q:Aa,q.1≤l→(H q).live=true→(m q).cap≠0→(m q).b<w.heap.size:=fun q a hl n=>by
  obtain⟨C,t,_⟩:=h.blk q a hl n
  grind
 have A:∀q:Aa,q.1≤l→(H q).live=true→(H q).e.isO=true→(m q).b<w.heap.size:=fun q a hl n=>by
  obtain⟨C,t,_⟩:=(h.mp.o q a hl).at n
  grind
 refine⟨⟨fun i hi=>?_,fun q a hl c=>?_,fun q a hl c=>?_,fun q s a r hl f c g heq=>?_,fun q a hl c=>?_,
  ⟨fun q a hl=>?_,fun q a hl he=>?_,fun q s a r hl f he p heq=>?_⟩⟩,j⟩
 ·have:=h.sub i hi;rw[D];simp;omega
 ·by_cases e:q=k
  ·subst e;rw[Au];exact u
  ·rw[Al _ _ e]at hl⊢;rw[AC _ _ e]at c;exact h.empty q a hl c
 ·by_cases e:q=k
  ·subst e;rw[AE]at c;exact absurd rfl c
  ·rw[Al _ _ e]at hl;rw[AC _ _ e]at c⊢;exact h.fresh q a hl c
 ·by_cases e:q=k
  ·subst e;rw[AE]at c;exact absurd rfl c
  ·by_cases e':s=k
   ·subst e';rw[AE]at g;exact absurd rfl g
   ·rw[AC _ _ e,AC _ _ e']at heq
    rw[Al _ _ e]at hl;rw[Al _ _ e']at f
    rw[AC _ _ e]at c;rw[AC _ _ e']at g
    exact h.inj q s a r hl f c g heq
 ·by_cases e:q=k
  ·subst e;rw[AE]at c;exact absurd rfl c
  ·rw[Al _ _ e]at hl⊢
   rw[AC _ _ e]at c⊢
   obtain⟨C,t,hs,z,hx⟩:=h.blk q a hl c
   refine⟨C,by rw[d _ (B q a hl c)];exact t,hs,z,fun i x v hi M=>?_⟩
   obtain⟨E,g2⟩:=hx i x v hi M
   exact⟨E,g2.ext j a⟩
 ·by_cases e:q=k
  ·subst e;rw[Au,AE];exact J
  ·rw[Al _ _ e]at hl⊢;rw[AC _ _ e]
   exact(h.mp.o q a hl).mono (fun _ h=>h) (fun i hi=>d i (h.sub i hi)) (fun L=>d _ (A q a hl L))
 ·by_cases e:q=k
  ·subst e;rw[AE];exact⟨⟨rfl,rfl⟩,fun hs=>by have:=h.sub _ hs;simp at this⟩
  ·rw[Al _ _ e]at hl he;rw[AC _ _ e];exact h.mp.c q a hl he
 ·by_cases e:q=k<;>by_cases e':s=k
  ·grind
  ·subst e
   rw[AE,AC _ _ e']at heq
   rw[Al _ _ e']at f p
   grind
  ·subst e'
   rw[AE,AC _ _ e]at heq
   rw[Al _ _ e]at hl he
   grind
  ·rw[AC _ _ e,AC _ _ e']at heq
   rw[Al _ _ e]at hl he;rw[Al _ _ e']at f p
   exact h.mp.i q s a r hl f he p heq
theorem Ok.writeO(h:Ok l H m S w)(k:Aa)(y:k.1≤l)(hl:(H k).live=true)(t:(H k).e.isO=true)(e':EK)(n:e'.isO=true)(o:Obj)
  (F:∀b,w'.heap[b]?=if b=(m k).b then some o else w.heap[b]?) (B:w'.heap.size=w.heap.size) (L:F1 w' S (m k).b e') (I:w'.os=w.os) (J:w'.tape=w.tape) (K:w'.output=w.output):
  Ok l (updH H k {H k with e:=e' }) m S w'∧Ext l H m S w (updH H k {H k with e:=e' }) m S w':=by
 obtain⟨Q,R⟩:=h.mp.c k y hl t
 have j:Ext l H m S w (updH H k {H k with e:=e' }) m S w':=by
  refine⟨fun _ h=>h,fun b s=>?_,fun q d=>?_,fun q d T a=>?_,I,J,K,by omega⟩
  ·grind
  ·by_cases e:q=k
   ·subst e;rw[Au];exact Ye _
   ·rw[Al _ _ e];exact Ye _
  ·by_cases e:q=k
   ·subst e;rw[Au]at a⊢;exact⟨a,rfl,rfl⟩
   ·rw[Al _ _ e]at a⊢;exact⟨a,rfl,rfl⟩
 have f:∀q:Aa,(updH H k {H k with e:=e' } q).live=(H q).live:=fun q=>by
  by_cases e:q=k
  ·subst e;rw[Au]
  ·rw[Al _ _ e]
 have g:∀q:Aa,(H q).e.isO=(updH H k {H k with e:=e' } q).e.isO:=fun q=>by
  by_cases e:q=k
  ·subst e;rw[Au];exact t.trans n.symm
  ·rw[Al _ _ e]
 refine⟨⟨fun b s=>?_,fun q d a r=>?_,fun q d a r=>?_,fun q E d p a c r D heq=>?_,fun q d a r=>?_,
  ⟨fun q d a=>?_,fun q d a he=>?_,fun q E d p a c he n heq=>?_⟩⟩,j⟩
 ·rw[B];exact h.sub b s
 ·rw[f]at a
  have:=h.empty q d a r
  by_cases e:q=k
  ·subst e;rw[Au];exact this
  ·rw[Al _ _ e];exact this
 ·rw[f]at a;exact h.fresh q d a r
 ·rw[f]at a c;exact h.inj q E d p a c r D heq
 ·rw[f]at a
  by_cases e:q=k
  ·grind
  ·rw[Al _ _ e]
   obtain⟨C,s,hs,z,hx⟩:=h.blk q d a r
   have A:(m q).b≠(m k).b:=fun u=>by
    obtain⟨U,O,P⟩:=(h.mp.o k y hl).at t
    rw[u,O]at s;cases s;cases P
   refine⟨C,by rw[F,Yq A];exact s,hs,z,fun i x v hi N=>?_⟩
   obtain⟨G,g2⟩:=hx i x v hi N
   exact⟨G,g2.ext j d⟩
 ·rw[f]at a
  by_cases e:q=k
  ·subst e;rw[Au];exact L
  ·rw[Al _ _ e]
   refine(h.mp.o q d a).mono (fun _ h=>h) j.blk (fun M=>?_)
   rw[F,Yq (fun u=>e (h.mp.i q k d y a hl M t u))]
 ·rw[f]at a;rw[←g]at he;exact h.mp.c q d a he
 ·rw[f]at a c;rw[←g]at he n;exact h.mp.i q E d p a c he n heq
theorem MEnt.push{q:Bool}{es:List (List D)}{ents:Array MapEntry}{a:Nat}{s:ByteArray}{ds:List D}{v:Value}(h:MEnt w S q es ents a)(f:VR w S q ds v):
  MEnt w S q (es++[.str s::ds]) (ents.push {key:=.string s,val:=v,born:=a }) (a+1):=by
 have at_:∀(i:Nat) (y:MapEntry),(ents.push {key:=.string s,val:=v,born:=a })[i]?=some y→(i=ents.size∧y={key:=.string s,val:=v,born:=a })∨(i≠ents.size∧ents[i]?=some y):=fun i y hy=>by
  grind
 refine⟨by simp[h.n],fun i k y z hy g e=>?_,fun i y hy=>?_,fun i e y hi hy=>?_⟩
 ·rcases at_ i y hy with⟨rfl,rfl⟩|⟨a1,b⟩<;>rcases at_ k z g with⟨rfl,rfl⟩|⟨j,d⟩
  ·rfl
  ·have:=h.clk k z d;simp only at e;omega
  ·have:=h.clk i y b;simp only at e;omega
  ·exact h.born i k y z b d e
 ·rcases at_ i y hy with⟨rfl,rfl⟩|⟨a1,b⟩
  ·grind
  ·exact Nat.lt_succ_of_lt (h.clk i y b)
 ·rcases at_ i y hy with⟨rfl,rfl⟩|⟨a1,b⟩
  ·rw[h.n,Ys (Ye _),Nat.sub_self]at hi
   cases hi
   exact⟨s,ds,rfl,rfl,f⟩
  ·have c:i<es.length:=by rw[←h.n];exact Gp b
   rw[Yn c]at hi
   exact h.e i e y hi b
end
end Go.Eng
