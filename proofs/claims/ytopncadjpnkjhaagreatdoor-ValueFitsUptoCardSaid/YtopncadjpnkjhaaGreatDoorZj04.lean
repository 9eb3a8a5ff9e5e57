import Derived.Test.YtopncadjpnkjhaaGreatDoorZj03
import Derived.Test.YtopncadjpnkjhaaGreatDoorZj01
import Derived.Maps.RangeRun
import Derived.Test.YtopncadjpnkjhaaGreatDoorZj00
namespace Go.Eng
open Go
set_option linter.all false
inductive Waits (ops:Array Oper):Nat→Nat→Prop
 |one {j i:Nat} {oj:Oper} {e:Edge} (hj:ops[j]?=some oj) (he:e∈oj.after) (hb:Region.binds .any e=true) (hi:e.on=i):Waits ops j i
 |more {j m i:Nat} {oj:Oper} {e:Edge} (hj:ops[j]?=some oj) (he:e∈oj.after) (hb:Region.binds .any e=true) (hm:e.on=m) (h:Waits ops m i):Waits ops j i
def MH(L:List Oper)(i:Nat):Nat→Nat→Bool
 |0,_=>false
 |a+1,j=>match A6 L j with|some b=>b.after.toList.any fun e=>Region.binds .any e&&(Nat.beq e.on i||MH L i a e.on)|none=>false
theorem VE{L:List Oper}{i:Nat}:∀(a j:Nat),MH L i a j=true→Waits L.toArray j i
 |0,j,h=>by cases h
 |a+1,j,h=>by
  unfold MH at h
  rw[BT]at h
  split at h
  ·rename_i f d
   obtain⟨e,he,h⟩:=YT.1 h
   rw[Yb,Yt]at h
   have c:L.toArray[j]?=some f:=by simpa using d
   rcases h.2 with b|b
   ·exact .one c (by simpa using he) h.1 (Ya b)
   ·exact .more c (by simpa using he) h.1 rfl (VE a _ b)
  ·cases h
def DC(ops:Array Oper)(listed:Array Bool):Prop:=∀(m:Nat) (a:Oper),ops[m]?=some a→listed.getD m false=true→∀e∈a.after,Region.binds .any e=true→listed.getD e.on false=true
theorem DC.waits{ops:Array Oper}{listed:Array Bool}(h:DC ops listed){j i:Nat}(c:Waits ops j i):listed.getD j false=true→listed.getD i false=true:=by
 induction c with
 |one b he a hi=>intro hl;rw[←hi];exact h _ _ b hl _ he a
 |more b he a hm _ d=>intro hl;exact d (by rw[←hm];exact h _ _ b hl _ he a)
theorem xJ{listed:Array Bool}{i:Nat}(h:listed.getD i true=false):listed.getD i false=false:=by
 grind
theorem DC.ready{ops:Array Oper}{listed:Array Bool}(h:DC ops listed){j:Nat}(f:j∈Region.ready .any ops listed):DC ops (listed.setIfInBounds j true):=by
 obtain⟨i,k,c,a⟩:=mem_ready.1 f
 intro m g hm hl e he d
 by_cases b:j=m
 ·subst b
  rw[c]at hm
  cases hm
  exact getD_set_true (a e he d)
 ·rw[getD_set_ne false b]at hl
  exact getD_set_true (h m g hm hl e he d)
theorem DC.nowait{ops:Array Oper}{listed:Array Bool}(h:DC ops listed){j i:Nat}(g:j∈Region.ready .any ops listed)(hi:listed.getD i true=false):¬Waits ops j i:=fun k=>by
 obtain⟨l,m,c,b⟩:=mem_ready.1 g
 have hi:=xJ hi
 cases k with
 |one a he e f=>
  grind
 |more a he e hm d=>
  rw[c]at a
  cases a
  have:=h.waits d (by rw[←hm];exact b _ he e)
  grind
def BB(o:Oper):Bool:=match o.op,o.dst,o.guard with
 |.store _ _ _,none,none=>true
 |_,_,_=>false
def F0(o:Oper):Bool:=match o.op with
 |.move _=>true
 |.binOp b _ _ _ _=>(match b with|.add=>true|.sub=>true|_=>false)
 |.indexAddr _ _ _=>true
 |.fieldAddr _ _ _=>true
 |.nilCheck _=>true
 |_=>false
def TN(H H':Hp):Prop:=∀k,(H' k).g=(H k).g∧(H' k).live=(H k).live∧(H' k).sz=(H k).sz
def LP(L:List Oper)(p:Oper)(k:Nat):Bool:=BL p k||p.after.toList.any fun e=>Region.binds .any e&&(match L[e.on]? with|some a=>BL a k|none=>false)
def Ow(L:List Oper)(o:Oper)(k:Nat):Nat→List Oper→Bool
 |_,[]=>true
 |j,p::r=>(match BB o with|true=>BL p k|false=>true)&&(match BB p with|true=>F0 o||LP L p k|false=>true)&&!BL o j&&Ow L o k (j+1) r
def Jb(L:List Oper):Nat→List Oper→Bool
 |_,[]=>true
 |k,o::r=>Ow L o k (k+1) r&&Jb L (k+1) r
theorem iV{L:List Oper}{o:Oper}{k:Nat}:∀{l:List Oper} {j i:Nat} {p:Oper},Ow L o k j l=true→l[i]?=some p→(BB o=true→BL p k=true)∧(BB p=true→F0 o=true∨LP L p k=true)∧BL o (j+i)=false
 |[],j,i,p,_,h=>by simp at h
 |q::r,j,i,p,a,h=>by
  simp only[Ow,Yb,YF]at a
  cases i with
  |zero=>
   grind
  |succ i=>
   have:=iV a.2 (i:=i) (by simpa using h)
   grind
theorem Xh{L:List Oper}:∀{l:List Oper} {k i j:Nat} {o p:Oper},Jb L k l=true→i<j→l[i]?=some o→l[j]?=some p→(BB o=true→BL p (k+i)=true)∧(BB p=true→F0 o=true∨LP L p (k+i)=true)∧BL o (k+j)=false
 |[],k,i,j,o,p,_,_,h,_=>by simp at h
 |q::r,k,i,j,o,p,b,c,h,a=>by
  simp only[Jb,Yb]at b
  cases j with
  |zero=>omega
  |succ j=>
   have a:r[j]?=some p:=by simpa using a
   cases i with
   |zero=>
    simp only[Y5,Yg]at h
    subst h
    have:=iV b.1 a
    grind
   |succ i=>
    have:=Xh b.2 (Nat.lt_of_succ_lt_succ c) (by simpa using h) a
    grind
theorem We{p:Oper}{k:Nat}(h:BL p k=true)(b:∀e∈p.after,Region.binds .any e=true→e.on≠k):False:=by
 unfold BL at h
 rw[YT]at h
 obtain⟨e,he,a⟩:=h
 simp only[Yb]at a
 exact b e (by simpa using he) a.1 (Ya a.2)
section
variable {P:Program} {l n:Nat} {B:Base} {H H':Hp} {ops:Array Oper} {ρ:Operand→AV}
theorem bH{o:Oper}{v:AV}(h:F0 o=true)(hs:TN H H')(a:qV P l H o ρ v):qV P l H' o ρ v:=by
 obtain⟨e,op,type,pos,after,guard⟩:=o
 cases op<;>simp only[F0]at h<;>first|(cases h;done)|skip
 case move=>exact a
 case nilCheck=>
  simp only[qV,AS]at a⊢
  unfold HV at a⊢
  split at a
  ·rename_i k g off _
   obtain⟨b,c,d⟩:=hs k
   grind
  ·exact a
  ·grind
 case fieldAddr=>
  simp only[qV,AS]at a⊢
  unfold D1 at a⊢
  split at a
  ·exact a
  ·rename_i k g off o n _ _
   obtain⟨b,c,d⟩:=hs k
   grind
  ·grind
 case indexAddr=>
  simp only[qV,AS]at a⊢
  unfold DD at a⊢
  split at a
  ·exact a
  ·rename_i k g off len _ n _ sz _ _ _
   obtain⟨b,c,d⟩:=hs k
   grind
  ·grind
 case binOp=>
  simp only[qV,AS]at a⊢
  unfold Ch at a⊢
  split at a
  ·exact a
  ·exact a
  ·grind
  ·exact a
  ·grind
  ·grind
theorem nU{o:Oper}{s:Nat→AV}{v:AV}(h:F0 o=true)(hs:TN H H')(a:YA P l H ops o s v):YA P l H' ops o s v:=by
 unfold YA at a⊢
 split at a
 ·exact bH h hs a
 ·split at a
  ·exact⟨fun e=>bH h hs (a.1 e),a.2⟩
  grind
def Fu(P:Program)(l:Nat)(o:Oper)(s:Nat→AV)(H H':Hp):Prop:=match o.op with
 |.store t a x=>match ev s a,Cs (ev s x)with
  |.ptr k g off,some vs=>g=(H k).g∧(H k).live=true∧vs.length=P.cellsOf t∧vs≠[]∧off+vs.length≤(H k).cells.length∧(k.1=l+1∨vs.all (AV.low k.1)=true)∧
    H'=updH H k {H k with cells:=(H k).cells.take off++vs++(H k).cells.drop (off+vs.length) }
  |_,_=>False
 |_=>False
theorem wo{o:Oper}{s:Nat→AV}(h:Fu P l o s H H'):TN H H':=by
 unfold Fu at h
 split at h
 ·split at h
  ·obtain⟨_,_,_,_,_,_,rfl⟩:=h
   intro k
   unfold updH
   grind
  grind
 grind
theorem yq{o:Oper}{s:Nat→AV}{K:St→Prop}(hs:BB o=true)(h:Bg P l n o K ⟨s,H⟩):∃H',Fu P l o s H H'∧K ⟨s,H'⟩:=by
 obtain⟨a,op,type,pos,after,guard⟩:=o
 cases op<;>simp only[BB]at hs<;>first|(cases hs;done)|skip
 cases a with
 |some d=>cases hs
 |none=>
  simp only[Bg]at h
  simp only[Fu]
  grind
theorem yl{o:Oper}{s:Nat→AV}{K:St→Prop}(hs:BB o=true)(h:Fu P l o s H H')(b:K ⟨s,H'⟩):Bg P l n o K ⟨s,H⟩:=by
 obtain⟨a,op,type,pos,after,guard⟩:=o
 cases op<;>simp only[BB]at hs<;>first|(cases hs;done)|skip
 cases a with
 |some d=>cases hs
 |none=>
  simp only[Fu]at h
  simp only[Bg]
  grind
theorem vO{o:Oper}{s:Nat→AV}{d:Nat}{u:AV}(g:d∉o.looksAt ops)(h:Fu P l o (upd s d u) H H'):Fu P l o s H H':=by
 have b:∀x∈o.op.operands,ev (upd s d u) x=ev s x:=fun x i=>by
  cases x with
  |tmp t=>
   have c:t≠d:=fun e=>g (by
    subst e
    exact Iq _ (List.mem_filterMap.2 ⟨.tmp t,by simpa using i,rfl⟩))
   simp[ev,upd,c]
  |_=>rfl
 unfold Fu at h⊢
 split at h
 ·rename_i t a x f
  rw[b a (by rw[f];simp[Op.operands]),b x (by rw[f];simp[Op.operands])]at h
  exact h
 grind
variable {fin:Bool} {X:St→Prop}
def Eg(P:Program)(l n:Nat)(ops:Array Oper)(fin:Bool)(X:St→Prop)(i:Nat)(K:St→Prop)(σ:St):Prop:=
 match ops[i]? with
 |none=>K σ
 |some o=>(Ct o=true∧∃d v,o.dst=some d∧d<n∧YA P l σ.H ops o σ.s v∧K ⟨upd σ.s d v,σ.H⟩)∨(BB o=true∧∃H',Fu P l o σ.s σ.H H'∧K ⟨σ.s,H'⟩)∨(fin=true∧i+1=ops.size∧X σ)
def I0(P:Program)(l n:Nat)(ops:Array Oper)(fin:Bool)(X:St→Prop)(Q:St→Prop):Nat→Array Bool→St→Prop
 |0,listed,σ=>Region.ready .any ops listed=[]∧Q σ
 |fuel+1,listed,σ=>(Region.ready .any ops listed=[]→Q σ)∧∀i∈Region.ready .any ops listed,Eg P l n ops fin X i (I0 P l n ops fin X Q fuel (listed.setIfInBounds i true)) σ
theorem vD{i:Nat}{K g:St→Prop}{σ:St}(h:∀s,K s→g s)(b:Eg P l n ops fin X i K σ):Eg P l n ops fin X i g σ:=by
 unfold Eg at*
 split
 ·rename_i e;rw[e]at b;exact h _ b
 ·rename_i o e
  rw[e]at b
  rcases b with⟨a,d,v,c,f,j,k⟩|⟨a,H',c,f⟩|a
  ·exact .inl ⟨a,d,v,c,f,j,h _ k⟩
  ·exact .inr (.inl ⟨a,H',c,h _ f⟩)
  ·exact .inr (.inr a)
theorem xy{i j:Nat}{c t:Oper}{d:Nat}{v:AV}(A:ops[j]?=some t)(a:c.dst=some d)(m:c.apart ops t=true)(p:BB t=true→F0 c=true)(r:fin=true→j+1≠ops.size){K:St→Prop}{s:Nat→AV}
  (hy:YA P l H ops c s v) (h:Eg P l n ops fin X j K ⟨upd s d v,H⟩):Eg P l n ops fin X j (fun g=>YA P l g.H ops c g.s v∧K ⟨upd g.s d v,g.H⟩) ⟨s,H⟩:=by
 obtain⟨w,x,y⟩:=Oper.apart_spec m
 unfold Eg at*
 simp only[A]at*
 rcases h with⟨b,e,u,he,o,f,k⟩|⟨b,H',f,k⟩|⟨b,z,_⟩
 ·refine .inl ⟨b,e,u,he,o,jP (w d a) f,wF (y e he) hy,?_⟩
  have q:d≠e:=fun e'=>x d a (e'▸he)
  rw[tL (Ne.symm q)]
  exact k
 ·exact .inr (.inl ⟨b,H',vO (w d a) f,nU (p b) (wo f) hy,k⟩)
 ·exact absurd z (r b)
theorem sj{Q:St→Prop}{i:Nat}{o:Oper}{d:Nat}{v:AV}(hi:ops[i]?=some o)(hq:Ct o=true)(D:o.dst=some d)(L:d<n):
  ∀(fuel:Nat) (listed:Array Bool) (s:Nat→AV) (H:Hp),
   (∀j u,ops[j]?=some u→j≠i→listed.getD j true=false→(∀e∈u.after,Region.binds .any e=true→e.on≠i∧∀a,ops[e.on]?=some a→BL a i=false)→¬Waits ops j i→o.apart ops u=true∧(BB u=true→F0 o=true)∧(fin=true→j+1≠ops.size))→DC ops listed→
   (∀m a,ops[m]?=some a→BL a i=true→listed.getD m true=false)→i∈Region.ready .any ops listed→YA P l H ops o s v→
   I0 P l n ops fin X Q fuel (listed.setIfInBounds i true) ⟨upd s d v,H⟩→I0 P l n ops fin X Q (fuel+1) listed ⟨s,H⟩:=by
 have w:∀{K:St→Prop} {s:Nat→AV} {H:Hp},YA P l H ops o s v→K ⟨upd s d v,H⟩→Eg P l n ops fin X i K ⟨s,H⟩:=fun hy hK=>by
  unfold Eg;simp only[hi];exact .inl ⟨hq,d,v,D,L,hy,hK⟩
 intro fuel
 induction fuel with
 |zero=>
  intro listed s H _ _ T t hy B
  refine⟨fun h=>(by rw[h]at t;cases t),fun j A=>?_⟩
  by_cases b:j=i
  ·subst b;exact w hy B
  ·have:=ready_mono A b
   rw[B.1]at this
   cases this
 |succ fuel ih=>
  intro listed s H f W T t hy B
  refine⟨fun h=>(by rw[h]at t;cases t),fun j A=>?_⟩
  by_cases b:j=i
  ·subst b;exact w hy B
  ·have c:=B.2 j (ready_mono A b)
   obtain⟨q,u,z,p⟩:=mem_ready.1 A
   have r:∀e∈u.after,Region.binds .any e=true→e.on≠i:=fun e he I heq=>by
    have c:=p e he I
    have C:=(mem_ready.1 t).1
    rw[heq]at c
    rcases Yz i listed.size with x|x
    ·simp[x]at C c;rw[C]at c;cases c
    ·simp[Y3 x]at c
   have y:∀e∈u.after,Region.binds .any e=true→e.on≠i∧∀a,ops[e.on]?=some a→BL a i=false:=fun e he I=>⟨r e he I,fun a S=>by
    cases J:BL a i with
    |false=>rfl
    |true=>
     have c:=p e he I
     have C:=T _ a S J
     rcases Yz e.on listed.size with x|x
     ·simp[x]at C c;rw[C]at c;cases c
     ·simp[Y3 x]at c⟩
   have M:=f j u z b q y (W.nowait A (mem_ready.1 t).1)
   have Z:=xy (i:=i) z D M.1 M.2.1 M.2.2 hy c
   have g:∀k ok,ops[k]?=some ok→k≠i→(listed.setIfInBounds j true).getD k true=false→
     (∀e∈ok.after,Region.binds .any e=true→e.on≠i∧∀a,ops[e.on]?=some a→BL a i=false)→¬Waits ops k i→o.apart ops ok=true∧(BB ok=true→F0 o=true)∧(fin=true→k+1≠ops.size):=fun k ok hk N G O R=>by
    refine f k ok hk N ?_ O R
    by_cases E:j=k
    ·subst E;exact q
    ·rw[getD_set_ne true E]at G;exact G
   have U:∀m a,ops[m]?=some a→BL a i=true→(listed.setIfInBounds j true).getD m true=false:=fun m a hm J=>by
    by_cases F:j=m
    ·subst F
     rw[z]at hm
     cases hm
     exact(We J r).elim
    ·rw[getD_set_ne true F];exact T m a hm J
   refine vD (fun Y V=>ih (listed.setIfInBounds j true) Y.s Y.H g (W.ready A) U (ready_mono t (Ne.symm b)) V.1 ?_) Z
   rw[ag _ _ b]
   exact V.2
theorem Wa{K K0:St→Prop}{m:Nat}(p:∀k (listed:Array Bool) (s:Nat→AV) (H:Hp),k+m=ops.size→(∀j,listed.getD j true=false→k≤j)→Region.lexFrom .any ops m k listed=true→K0 ⟨s,H⟩→I0 P l n ops fin X K m listed ⟨s,H⟩)(w:fin=true→∀i,i+1<ops.size→Waits ops (ops.size-1) i)(z:∀i j N u,i<j→ops[i]?=some N→ops[j]?=some u→(BB N=true→BL u i=true)∧(BB u=true→F0 N=true∨LP ops.toList u i=true)∧BL N j=false):
  ∀(rest:List Oper) (k:Nat) (listed:Array Bool) (s:Nat→AV) (H:Hp),rest.all (fun o=>Ct o||BB o)=true→(∀j,listed.getD j true=false→k≤j)→(∀j,k≤j→j<ops.size→listed.getD j true=false)→
  k+rest.length+m=ops.size→DC ops listed→(∀j,j<rest.length→rest[j]?=ops[k+j]?)→Region.lexFrom .any ops (rest.length+m) k listed=true→Df P l n (ops.toList.map (·.dst)) rest K0 ⟨s,H⟩→I0 P l n ops fin X K (rest.length+m) listed ⟨s,H⟩
 |[],k,listed,s,H,_,F,_,r,_,_,C,h=>by
  simp only[Hc,YS,DZ]at C r⊢
  exact p k listed s H r F C h
 |o::rest,k,listed,s,H,Z,F,hk2,r,hD,hl,C,h=>by
  have M:ops[k]?=some o:=by simpa using(hl 0 (by simp)).symm
  rw[EW,Nat.add_right_comm]at C⊢
  simp only[Region.lexFrom,Yb]at C
  obtain⟨⟨D,hf⟩,Q⟩:=C
  have D:k∈Region.ready .any ops listed:=by simpa using D
  simp only[Hf,Yb,Yt]at Z
  have U:∀j,(listed.setIfInBounds k true).getD j true=false→k+1≤j:=fun j E=>by
   by_cases g:k=j
   ·subst g
    exfalso
    rcases Yz k listed.size with L|L
    ·simp[L]at E
    grind
   ·rw[getD_set_ne true g]at E
    grind
  have G:∀j,k+1≤j→j<ops.size→(listed.setIfInBounds k true).getD j true=false:=fun j h1 h2=>by
   rw[getD_set_ne true (by omega)]
   grind
  have hu:∀m om,ops[m]?=some om→BL om k=true→listed.getD m true=false:=fun m om hm ho=>by
   grind
  have W:∀j,j<rest.length→rest[j]?=ops[k+1+j]?:=fun j E=>by have:=hl (j+1) (by simp;omega);simpa[YC,LB 1 j]using this
  have next:∀s' H',Df P l n (ops.toList.map (·.dst)) rest K0 ⟨s',H'⟩→I0 P l n ops fin X K (rest.length+m) (listed.setIfInBounds k true) ⟨s',H'⟩:=fun s' H' L=>
   Wa p w z rest (k+1) _ s' H' (by simpa using Z.2) U G (by simp only[EW]at r;omega) (hD.ready D) W Q L
  by_cases a:BB o=true
  ·
   have y:o.guard=none:=by
    cases y:o.guard with
    |none=>rfl
    |some _=>obtain⟨O,op,type,pos,after,guard⟩:=o;simp only at y;subst y;cases op<;>cases O<;>simp[BB]at a
   have J:Bg P l n o (Df P l n (ops.toList.map (·.dst)) rest K0) ⟨s,H⟩:=by
    unfold Df at h
    simp only[y]at h
    unfold EE at h
    split at h
    ·rename_i R;simp[BB,R]at a
    ·rename_i c R;simp[BB,R]at a
    ·exact h
   obtain⟨H',hS,hK⟩:=yq a J
   refine⟨fun h=>(by rw[h]at D;cases D),fun j E=>?_⟩
   by_cases g:j=k
   ·subst g
    unfold Eg
    grind
   ·exfalso
    obtain⟨f,u,q,hall⟩:=mem_ready.1 E
    have V:=F j f
    have he:=(z k j o u (by omega) M q).1 a
    refine We he fun e he x heq=>?_
    grind
  ·have B:Ct o=true:=by rcases Z.1 with h|h;exact h;exact absurd h a
   have hst:∃d v,o.dst=some d∧d<n∧YA P l H ops o s v∧Df P l n (ops.toList.map (·.dst)) rest K0 ⟨upd s d v,H⟩:=by
    unfold Df at h
    unfold YA
    cases y:o.guard with
    |none=>simp only[y]at h;exact iy B h
    |some gw=>
     obtain⟨i,b⟩:=gw
     simp only[y]at h⊢
     split at h
     ·rename_i t ht
      cases t with
      |true=>
       obtain⟨d,v,h1,h2,h3,h4⟩:=iy B (h.1 rfl)
       grind
      |false=>
       grind
     grind
   obtain⟨d,v,hd,S,hy,hK⟩:=hst
   refine sj M B hd S (rest.length+m) listed s H (fun j u q g f I Y=>⟨Region.free_spec M hf j u q g f (fun e he x=>(I e he x).1),fun hsj=>?_,fun T A=>Y (by have:=w T k (by have:=F j f;omega);rwa [←A,Nat.add_sub_cancel]at this)⟩) hD hu D hy (next _ _ hK)
   have V:=F j f
   rcases(z k j o u (by omega) M q).2.1 hsj with h|h
   ·exact h
   ·exfalso
    unfold LP at h
    rw[Yt]at h
    rcases h with h|h
    ·exact We h fun e he x=>(I e he x).1
    ·obtain⟨e,he,x⟩:=YT.1 h
     rw[Yb]at x
     obtain⟨Dx,Ao⟩:=x
     split at Ao
     ·grind
     grind
theorem rT{i:Nat}{σ:St}{a:Act}{w:World}{K:St→Prop}{q:Act→World→Prop}{f:Exit→Act→World→Prop}(r:R l n B σ a w)
  (h:∀σ a w,R l n B σ a w→K σ→q a w) (L:fin=true→i+1=ops.size→X σ→wpOp P ops f i q a w) (A:Eg P l n ops fin X i K σ):wpOp P ops f i q a w:=by
 have z:=L
 obtain⟨s,H⟩:=σ
 unfold Eg at A
 unfold wpOp
 split
 ·grind
 ·rename_i o G
  simp only[G]at A
  rcases A with⟨C,d,v,F,g,hy,E⟩|⟨k,H',y,E⟩|⟨T,U,V⟩
  rotate_left 2
  ·have:=z T U V
   unfold wpOp at this
   simpa only[G]using this
  ·have go:qV P l H o (ev s) v→o.wp P a w q f:=fun Q=>by
    have:=ym (B:=B) C F g Q a w r f
    refine Oper.wp_mono (fun I w' ⟨D,e,x⟩=>?_) this
    grind
   unfold YA at hy
   cases c:o.guard with
   |none=>
    simp only[c]at hy
    rw[Yi (by simp[Region.wanted,c])]
    grind
   |some J=>
    obtain⟨j,b⟩:=J
    simp only[c]at hy
    split at hy
    ·rename_i t O
     have p:(yielded ops a.tmps j==some b)=t:=by
      obtain⟨m,S,W,Y,M,y,N⟩:=r.un
      exact VM y O
     cases t with
     |true=>
      rw[Yi (by simp only[Region.wanted,c];exact p)]
      grind
     |false=>
      rw[Yj (by simp only[Region.wanted,c,p];decide)]
      have:=hy.2 rfl
      subst this
      rw[F]
      exact h _ _ _ (R.undef r g) E
    grind
  ·have c:o.guard=none:=by
    cases c:o.guard with
    |none=>rfl
    |some _=>obtain⟨u,op,type,pos,after,guard⟩:=o;simp only at c;subst c;cases op<;>cases u<;>simp[BB]at k
   rw[Yi (by simp[Region.wanted,c])]
   refine .inl ?_
   have:=Iw (B:=B) (yl (n:=n) (K:=fun D=>D=⟨s,H'⟩) k y rfl) a w r f
   refine Oper.wp_mono (fun I w' ⟨D,e,x⟩=>?_) this
   grind
theorem fT{b:Exit→Act→World→Prop}{listed:Array Bool}(h:Region.ready .any ops listed=[]){a:Act}{w:World}(c:b .normal a w):∀fuel,wpAny P .any ops b fuel listed a w
 |0=>⟨h,c⟩
 |_+1=>⟨fun _=>c,fun i hi=>by rw[h]at hi;cases hi⟩
theorem Vf{Q:St→Prop}{m:Exit→Act→World→Prop}(q:∀σ a w,R l n B σ a w→Q σ→m .normal a w)(b:fin=true→∀i,i+1<ops.size→Waits ops (ops.size-1) i)(y:fin=true→∀σ a w,R l n B σ a w→X σ→∀o,ops[ops.size-1]?=some o→wpList P ops m [o] a w):
  ∀(fuel:Nat) (listed:Array Bool) (σ:St) (a:Act) (w:World),DC ops listed→R l n B σ a w→I0 P l n ops fin X Q fuel listed σ→wpAny P .any ops m fuel listed a w
 |0,_,_,_,_,_,d,h=>⟨h.1,q _ _ _ d h.2⟩
 |fuel+1,listed,σ,a,w,x,d,h=>⟨fun u=>q _ _ _ d (h.1 u),fun i hi=>rT d (fun s' t w' r D=>Vf q b y fuel _ s' t w' (x.ready hi) r D) (fun C J H=>by
  obtain⟨u,o,A,z⟩:=mem_ready.1 hi
  have e:ops.size-1=i:=by omega
  have hw:=y C σ a w d H o (by rw[e];exact A)
  have g:Region.ready .any ops (listed.setIfInBounds i true)=[]:=by
   refine List.eq_nil_iff_forall_not_mem.2 fun j E=>?_
   obtain⟨k,I,s,_⟩:=mem_ready.1 E
   have F:j<ops.size:=(YQ.1 s).1
   by_cases f:i=j
   ·subst f
    rcases Yz i listed.size with p|p
    ·simp[p]at k
    ·simp[Y3 p]at k
   ·rw[getD_set_ne true f]at k
    have v:=b C j (by omega)
    rw[e]at v
    exact x.nowait hi k v
  unfold wpOp
  simp only[A]
  unfold wpList at hw
  split
  ·rename_i c
   rw[Yi c]at hw
   exact hw.imp (Oper.wp_mono fun t w' G=>fT g G _) id
  ·rename_i c
   rw[Yj c]at hw
   exact fT g hw _) (h.2 i hi)⟩
theorem DC.none(n:Nat):DC ops (Array.replicate n false):=fun m b _ h=>by
 rw[Ys]at h
 rcases Yz m n with a|a
 ·simp[a]at h
 ·simp[Nat.not_lt.2 a]at h
theorem rV{id:Nat}{ops:List Oper}{σ:St}{Q:Exit→St→Prop}(hm:P.follows .mixedOrders=true)(c:Region.lexB .any ops.toArray=true)(C:ops.all (fun o=>Ct o||BB o)=true)(hs:Jb ops 0 ops=true)
  (h:Df P l n (ops.map (·.dst)) ops (Q .normal) σ):Bn P l n B (.region id ops.toArray true) Q σ:=by
 intro a w x
 obtain⟨s,H⟩:=σ
 simp only[Region.lexB,Yb]at c
 have u:=Wa (P:=P) (l:=l) (n:=n) (ops:=ops.toArray) (K:=Q .normal) (K0:=Q .normal) (m:=0) (fin:=false) (X:=fun _=>False) (fun k listed s H _ _ c h=>⟨by simpa[Region.lexFrom]using c,h⟩) (fun e=>by cases e) (fun i j E F p hi z=>by
   have:=Xh hs p (by simpa using hi) (by simpa using z)
   simpa using this) ops 0 (Array.replicate ops.toArray.size false) s H C (fun _ _=>D0 _) (fun j _ h=>by simp at h;simp[h]) (by simp) (DC.none _) (by simp) (by simpa using c.2) (by simpa using h)
 have d:R l n B ⟨s,H⟩ a {w with drawn:=w.drawn+1 }:=by
  obtain⟨m,S,v,A,f,y,g⟩:=x.un
  obtain⟨r,t⟩:=v.drew (w':={w with drawn:=w.drawn+1 }) rfl rfl rfl rfl
  exact R.keep r A f y g t
 refine wp_region_any hm (Vf (Q:=Q .normal) (fin:=false) (X:=fun _=>False) (fun G D w' b q=>⟨_,q,b⟩) (fun e=>by cases e) (fun e=>by cases e) _ _ _ a _ (DC.none _) d (by simpa using u))
theorem s3{id:Nat}{L:List Oper}{o:Oper}{σ:St}{QQ:Exit→Act→World→Prop}{X:St→Prop}(hm:P.follows .mixedOrders=true)(c:Region.lexB .any (L++[o]).toArray=true)(J:L.all (fun o=>Ct o||BB o)=true)(hs:Jb (L++[o]) 0 (L++[o])=true)
  (M:∀i,i<L.length→Waits (L++[o]).toArray L.length i) (h:Df P l n ((L++[o]).map (·.dst)) L X σ) (G:∀σ a w,R l n B σ a w→X σ→wpList P (L++[o]).toArray QQ [o] a w) {a:Act} {w:World} (g:R l n B σ a w):(Code.region id (L++[o]).toArray true).wp P QQ a w:=by
 obtain⟨s,H⟩:=σ
 simp only[Region.lexB,Yb]at c
 have b:true=true→∀i,i+1<(L++[o]).toArray.size→Waits (L++[o]).toArray ((L++[o]).toArray.size-1) i:=fun _ i hi=>by
  have:=M i (by simpa using hi)
  simpa using this
 have D:=Wa (P:=P) (l:=l) (n:=n) (ops:=(L++[o]).toArray) (K:=fun _=>False) (K0:=X) (m:=1) (fin:=true) (X:=X) (fun k listed s H V hl c h=>by
   simp only[Region.lexFrom,Yb]at c
   have C:k∈Region.ready .any (L++[o]).toArray listed:=by simpa using c.1.1
   refine⟨fun f=>(by rw[f]at C;cases C),fun i hi=>?_⟩
   obtain⟨f,T,d,_⟩:=mem_ready.1 hi
   have y:=hl i f
   have z:i<(L++[o]).toArray.size:=(YQ.1 d).1
   unfold Eg
   simp only[d]
   refine .inr (.inr ?_)
   exact And.intro (by first|rfl|trivial) (And.intro (by omega) h)) b (fun i j T W t hi u=>by
   have:=Xh hs t (by simpa using hi) (by simpa using u)
   simpa using this) L 0 (Array.replicate (L++[o]).toArray.size false) s H J (fun _ _=>D0 _) (fun j _ h=>by simp at h;simp[h]) (by simp) (DC.none _) (fun j u=>by simp[Yo u]) (by simpa using c.2) (by simpa using h)
 have p:R l n B ⟨s,H⟩ a {w with drawn:=w.drawn+1 }:=by
  obtain⟨m,S,E,I,q,F,r⟩:=g.un
  obtain⟨y,z⟩:=E.drew (w':={w with drawn:=w.drawn+1 }) rfl rfl rfl rfl
  exact R.keep y I q F r z
 refine wp_region_any hm (Vf (Q:=fun _=>False) (fin:=true) (X:=X) (fun Y U w' A x=>x.elim) b (fun _ σ a w g N O v=>?_) _ _ _ a _ (DC.none _) p (by simpa using D))
 have e:O=o:=by simpa using v.symm
 subst e
 exact G σ a w g N
end
end Go.Eng
namespace Go.Eng
set_option linter.all false
open Go Go.RowKit
section
variable {P:Program} {T:Nat→Option TI} {r:Ren} {H H':Hp} {g:Option Bool} {a:AT} {K:AV→AT→Prop}
def KR(r:Ren)(K:AV→AT→Prop)(y:AV):Prop:=∃v a,y=ren r v∧K v a
theorem KR.mk{v:AV}{a:AT}(h:K v a):KR r K (ren r v):=⟨v,a,rfl,h⟩
theorem KR.mk'{v y:AV}{a:AT}(h:K v a)(e:y=ren r v):KR r K y:=⟨v,a,e,h⟩
theorem kh{t:TypeId}{i:TI}(hi:TIok P t i)(h:(i.str||i.elm.isSome)=true):H7 P t=true:=by
 rw[Yt]at h
 unfold H7
 rcases h with h|h
 ·have:=hi.str h
  unfold KY at this
  split at this
  ·rename_i a _;rw[a]
  ·cases this
 ·obtain⟨e,he⟩:=Y0.1 h
  obtain⟨b,c⟩:=e
  have:=(D5 (hi.elm _ he)).1
  rw[this]
theorem Vz{t:TypeId}{i:TI}(hi:TIok P t i)(y:C8 r H H')(p:∀b,g=some b→b=true){x:AV}(h:Kg i H x g a K):DM P H' t (ren r x) (KR r K):=by
 unfold Kg at h
 cases x<;>simp only at h<;>try exact h.elim
 case iptr cs off=>
  simp only[ren,DM,hi.agg,hi.siz]
  split at h
  ·rename_i he
   rw[he]
   split at h
   ·rename_i c d f
    obtain⟨m,n⟩:=V9 _ _ _ f
    have d:=Yf d
    rw[Fw]at n
    exact⟨by omega,by omega,.mk' h (by rw[m,ren,Gn])⟩
   grind
  ·rename_i he
   rw[he]
   rw[BT]at h
   simp only
   split at h
   ·rename_i c o;simp only[o];exact .mk' h rfl
   grind
 case ptr k q off=>
  simp only[ren,DM,hi.agg,hi.siz]
  split at h
  ·rename_i hl
   obtain⟨s,u,z,A,v⟩:=y.at hl
   refine⟨s,u,?_⟩
   rw[v]
   split at h
   ·split at h
    ·rename_i he
     rw[he]
     split at h
     ·rename_i c d f
      obtain⟨m,n⟩:=V9 _ _ _ f
      have d:=Yf d
      rw[Fw]at n
      exact⟨by omega,by rw[Cb];omega,.mk' h (by rw[ren,D4,Er,m])⟩
     grind
    ·rename_i he
     rw[he]
     rw[BT]at h
     split at h
     ·rename_i c o;simp only[Gh,o,YV];exact .mk' h rfl
     grind
   ·split at h
    ·rename_i he
     rw[he]
     split at h
     ·rename_i c B d f
      have d:=Yf d
      have f:=Ya f
      have j:Dd _ _ _:=Be p h.1
      unfold Dd at j
      rw[f]at j
      have w:=congrArg List.length j
      rw[YO,Fw]at w
      exact⟨by omega,by rw[Cb];omega,.mk' h.2 (by rw[ren,D4,Er,j])⟩
     grind
    ·rename_i he
     rw[he]
     split at h
     ·rename_i x
      have j:Dd _ _ _:=Be p h.1
      unfold Dd at j
      have e:(H k).cells[off]?=some x:=by
       have:=congrArg (fun l=>l[0]?) j
       grind
      simp only[Gh,e,YV]
      exact .mk' h.2 rfl
     grind
   grind
  ·grind
theorem J4{t:TypeId}{i:TI}(hi:TIok P t i){f:Nat}{x:Nat×Nat×Bool}(h:A6 i.fld f=some x):fld P t f=some (x.1,x.2.1)∧Kr P t f=some x:=by
 rw[BT]at h;exact hi.fld f x h
theorem qO{t:TypeId}{i:TI}(hi:TIok P t i)(j:C8 r H H'){f:Nat}{x:AV}(h:PR i H f x a K):D1 P H' t f (ren r x) (KR r K):=by
 unfold PR at h
 split at h
 ·rename_i o n b k
  have e:=(J4 hi k).1
  split at h
  ·rename_i c
   have c:=Yf c
   unfold D1
   rw[e]
   split at h
   ·simp only[ren];exact⟨by omega,.mk' h rfl⟩
   ·split at h
    ·rename_i hl
     obtain⟨d,g,_⟩:=j.at hl
     simp only[ren];exact⟨by omega,d,g,.mk' h rfl⟩
    grind
   grind
  grind
 grind
theorem rj{t:TypeId}{i:TI}(hi:TIok P t i){f:Nat}{x:AV}(h:QK i f x a K):D6 P t f (ren r x) (KR r K):=by
 unfold QK at h
 rw[sD]
 split at h
 ·rename_i o n cs b
  rw[(J4 hi b).2]
  split at h
  ·rename_i d
   have d:=Yf d
   simp only[ren,LV]
   exact⟨by omega,.mk' h (by rw[ren,D4,Er])⟩
  grind
 ·rename_i o n cs b
  rw[(J4 hi b).2]
  rw[BT]at h
  split at h
  ·rename_i c e
   simp only[ren,LV,Gh,e,YV]
   exact .mk' h rfl
  grind
 grind
theorem qP{t:TypeId}{i:TI}(hi:TIok P t i)(w:C8 r H H')(m:∀b,g=some b→b=true){x j:AV}(h:PP i H x j g a K):DD P H' t (ren r x) (ren r j) (KR r K):=by
 unfold PP at h
 split at h
 ·rename_i e sz k n he
  have he:=hi.elm _ he
  split at h
  ·rename_i y e' q
   split at h
   ·rename_i c d
    have c:=Ya c
    have d:=Yf d
    obtain⟨f,l⟩:HU _ _ _:=Be m h.1
    simp only[ren,DD,he]
    refine⟨f,?_⟩
    rw[l]
    exact⟨c,by omega,.mk' h.2 rfl⟩
   grind
  ·rename_i k q off len o B
   split at h
   ·rename_i hl c d
    have c:=Ya c
    have d:=Yf d
    obtain⟨p,s,z,u,A⟩:=w.at hl
    obtain⟨f,l,v⟩:KJ _ _ _ _ _:=Be m h.1
    simp only[ren,DD,he]
    exact⟨f,l,p,s,by rw[u,c],by omega,.mk' h.2 (by rw[ren,v])⟩
   grind
  grind
 grind
theorem ro{t:TypeId}{i:TI}(hi:TIok P t i)(m:∀b,g=some b→b=true){x j:AV}(h:QM i x j g a K):Eu P t (ren r x) (ren r j) (KR r K):=by
 unfold QM at h
 split at h
 ·rename_i s k n b q
  split at h
  ·rename_i d
   have d:=Ya d
   obtain⟨e,c,f,l⟩:HO _ _ _:=Be m h.1
   simp only[ren,Eu]
   refine⟨by rw[hi.kin];exact d,e,?_⟩
   rw[f]
   exact .mk' h.2 (by rw[ren,l])
  grind
 grind
theorem r3{op:BinOp}{k:IntKind}{x y:Int}(c:∀b,g=some b→b=true)(h:OQ op k x y g a K):Fk op k x y (KR r K):=by
 unfold OQ at h
 cases op<;>simp only at h<;>try exact h.elim
 all_goals simp only[Fk]
 case eql=>exact .mk' h rfl
 case neq=>exact .mk' h rfl
 case lss=>exact .mk' h rfl
 case leq=>exact .mk' h rfl
 case gtr=>exact .mk' h rfl
 case geq=>exact .mk' h rfl
 case add|sub|mul=>
  split at h
  ·have e:B6 _ _ _:=Be c h.1
   unfold B6 at e
   rw[e];exact .mk' h.2 rfl
  ·grind
 case and|or|xor=>
  split at h
  ·have e:Bm _ _:=Be c h.1
   unfold Bm at e
   rw[e];exact .mk' h.2 rfl
  ·grind
 case quo=>
  split at h
  ·have e:B6 _ _ _:=Be c h.2.1
   unfold B6 at e
   rw[e];exact⟨Be c h.1,.mk' h.2.2 rfl⟩
  ·grind
 case rem=>
  split at h
  ·have e:Bm _ _:=Be c h.2.1
   unfold Bm at e
   rw[e];exact⟨Be c h.1,.mk' h.2.2 rfl⟩
  ·grind
 case shr=>
  split at h
  ·have e:Bm _ _:=Be c h.2.1
   unfold Bm at e
   rw[e];exact⟨Be c h.1,.mk' h.2.2 rfl⟩
  ·grind
 case shl=>
  split at h
  ·have e:B6 _ _ _:=Be c h.2.1
   unfold B6 at e
   rw[e];exact⟨Be c h.1,.mk' h.2.2 rfl⟩
  ·grind
theorem sT{op:BinOp}{x y:ByteArray}(c:∀b,g=some b→b=true)(h:OZ op x y g a K):Fm op x y (KR r K):=by
 unfold OZ at h
 cases op<;>simp only at h<;>try exact h.elim
 all_goals simp only[Fm]
 case add=>exact⟨Be c h.1,.mk' h.2 rfl⟩
 all_goals exact .mk' h rfl
theorem fP{neg:Bool}{x:AV}(i:C8 r H H')(h:K2 H neg x a K):Di H' neg (ren r x) (KR r K):=by
 unfold K2 at h
 split at h
 ·simp only[ren,Di];exact fun b=>.mk' (h b) rfl
 ·rename_i c
  cases c with
  |nil=>simp only[ren,Di];exact fun b=>.mk' (h b (fun e=>absurd rfl e)) rfl
  |cons e c=>simp only[ren,Di];exact .mk' (h neg (fun _=>rfl)) rfl
 ·rename_i k q off n
  split at h
  ·rename_i hl
   obtain⟨f,g,_⟩:=i.at hl
   simp only[ren,Di]
   exact⟨⟨f,g⟩,fun d=>.mk' (h neg (fun _=>rfl)) rfl,fun d b=>.mk' (h b (fun e=>absurd d e)) rfl⟩
  grind
 grind
theorem gE:∀(ks:List Nat) (xs ys:List AV) (b:Bool),DN ks xs ys=some b→DN ks (Aj r xs) (Aj r ys)=some b
 |[],[],[],b,h=>by simpa[Aj]using h
 |k::ks,x::xs,y::ys,b,h=>by
  cases x<;>cases y<;>simp only[DN]at h<;>try (cases h;done)
  rename_i x y
  simp only[Aj,ren,DN]
  split at h
  ·rename_i d e a c
   simp only[a,gE ks xs ys _ c]
   exact h
  ·cases h
 |[],[],_::_,b,h=>by simp[DN]at h
 |[],_::_,_,b,h=>by simp[DN]at h
 |_::_,[],_,b,h=>by simp[DN]at h
 |_::_,x::_,[],b,h=>by cases x<;>simp[DN]at h
theorem xb{H:Hp}{op:BinOp}{t:TypeId}{a:Bool}{x:AV}{K:AV→Prop}:Ch P H op t a x .e0 K=(a=true∧kin P t=4∧match op with|.eql=>Di H false x K|.neq=>Di H true x K|_=>False):=by
 unfold Ch
 grind
theorem sh{t:TypeId}{i:TI}(hi:TIok P t i)(e:C8 r H H')(f:∀b,g=some b→b=true){op:BinOp}{j:Bool}{x y:AV}(h:OL i H op j x y g a K):Ch P H' op t j (ren r x) (ren r y) (KR r K):=by
 unfold OL at h
 split at h
 ·split at h
  ·rename_i c
   simp only[ren,Ch]
   exact⟨yg c,r3 f h⟩
  grind
 ·simp only[ren,Ch];exact sT f h
 ·split at h
  ·rename_i c
   simp only[ren,Ch]
   refine⟨by rw[hi.kin];exact Ya c,?_⟩
   split at h
   ·exact .mk' h rfl
   ·exact .mk' h rfl
   grind
  grind
 ·rename_i xs ys
  split at h
  ·rename_i ks d
   split at h
   ·rename_i b l
    simp only[ren,Ch,FV,hi.eqt _ d,gE _ _ _ _ l]
    split at h
    ·exact .mk' h rfl
    ·exact .mk' h rfl
    grind
   grind
  grind
 ·rw[show ren r .e0=.e0 from by simp[ren],xb]
  split at h
  ·rename_i m k
   refine⟨rfl,by rw[hi.kin];exact Ya k,?_⟩
   split at h
   ·exact fP e h
   ·exact fP e h
   grind
  grind
 grind
theorem td{op:UnOp}{x:AV}(c:∀b,g=some b→b=true)(h:R1 op x g a K):DW op (ren r x) (KR r K):=by
 unfold R1 at h
 split at h
 ·simp only[ren,DW];exact .mk' h rfl
 ·split at h
  ·have e:B6 _ _ _:=Be c h.1
   unfold B6 at e
   simp only[ren,DW]
   rw[e];exact .mk' h.2 rfl
  grind
 ·split at h
  ·have e:Bm _ _:=Be c h.1
   unfold Bm at e
   simp only[ren,DW]
   rw[e];exact .mk' h.2 rfl
  grind
 grind
theorem rI{s d:TypeId}{i j:TI}(hi:TIok P s i)(k:TIok P d j){x:AV}(l:∀b,g=some b→b=true)(h:Rb i j x g a K):D8 P s d (ren r x) (KR r K):=by
 unfold Rb at h
 split at h
 ·split at h
  ·rename_i q n p k' o m t c f
   have e:B6 _ _ _:=Be l h.1
   unfold B6 at e
   simp only[ren,D8,hi.ik _ c,k.ik _ f]
   rw[e];exact .mk' h.2 rfl
  grind
 ·split at h
  ·rename_i c f
   simp only[ren,D8,Gk (by rw[hi.kin];exact Ya c),Gk (by rw[k.kin];exact Ya f)]
   exact .mk' h rfl
  grind
 grind
theorem J0{d l:Nat}{o a:Option AV}(h:CC d o l)(b:a=o.map (ren r)):Dw d a=some l:=by
 subst b
 unfold CC at h
 split at h
 ·simp[Dw,h]
 ·subst h
  simp[Dw,ren]
 grind
theorem rP{t:TypeId}{i:TI}(hi:TIok P t i)(B:C8 r H H')(c:∀b,g=some b→b=true){x:AV}{lo q:Option AV}{v:Bool}(h:Qy i H x lo q v g a K):
  DL P H' t (ren r x) (lo.map (ren r)) (q.map (ren r)) v (KR r K):=by
 unfold Qy at h
 split at h
 ·split at h
  ·split at h
   ·rename_i C
    obtain⟨m,n,o,p⟩:=h
    have f:=J0 (r:=r) (Be c m) rfl
    have j:=J0 (r:=r) (Be c n) rfl
    have d:DY _ _ _:=Be c o
    simp only[ren,DL,f,j]
    exact⟨by rw[hi.kin];exact Ya C,trivial,d.1,d.2,.mk' p rfl⟩
   grind
  ·split at h
   ·rename_i e sz w D he
    split at h
    ·rename_i l
     have l:=Yf l
     obtain⟨m,n,o,p,u⟩:=h
     have f:=J0 (r:=r) (Be c m) rfl
     have j:=J0 (r:=r) (Be c n) rfl
     have d:DY _ _ _:=Be c o
     have k:Ln _ _ _ _ _:=Be c p
     simp only[ren,DL,f,j,hi.elm _ he]
     exact⟨trivial,by omega,k.1,d.1,d.2,.mk' u (by rw[ren,k.2])⟩
    grind
   grind
  ·split at h
   ·rename_i e sz I G D he hl
    split at h
    ·rename_i l s
     have l:=Yf l
     obtain⟨y,z,E,A,F⟩:=B.at hl
     obtain⟨m,n,o,p,u⟩:=h
     have f:=J0 (r:=r) (Be c m) rfl
     have j:=J0 (r:=r) (Be c n) rfl
     have d:DY _ _ _:=Be c o
     have k:Sr _ _ _ _ _:=Be c p
     simp only[ren,DL,f,j,hi.elm _ he]
     exact⟨trivial,y,z,by omega,by rw[A];exact Ya s,d.1,d.2,.mk' u (by rw[ren,k.1,k.2])⟩
    grind
   grind
  grind
 grind
theorem sX{t:TypeId}{i:TI}(hi:TIok P t i)(k:C8 r H H')(d:∀b,g=some b→b=true){x:AV}(h:Pd i H x g a K):Dg P H' t (ren r x) (KR r K):=by
 unfold Pd at h
 split at h
 ·split at h
  ·rename_i c
   have e:Bm _ _:=Be d h.1
   unfold Bm at e
   simp only[ren,Dg,hi.kin]
   exact⟨Ya c,.mk' h.2 (by rw[ren,e])⟩
  grind
 ·split at h
  ·rename_i c
   have e:Bm _ _:=Be d h.1
   unfold Bm at e
   simp only[ren,Dg,hi.kin]
   exact⟨Ya c,.mk' h.2 (by rw[ren,e])⟩
  grind
 ·split at h
  ·rename_i c
   have e:Bm _ _:=Be d h.1
   unfold Bm at e
   simp only[ren,Dg,hi.kin]
   exact⟨Ya c,.mk' h.2 (by rw[ren,e])⟩
  grind
 ·split at h
  ·rename_i c hl
   have e:Bm _ _:=Be d h.1
   unfold Bm at e
   obtain⟨f,j,_⟩:=k.at hl
   simp only[ren,Dg,hi.kin]
   exact⟨Ya c,f,j,.mk' h.2 (by rw[ren,e])⟩
  grind
 grind
theorem sv(a:C8 r H H'){x:AV}{y:Bool×List (List D)}(h:WZ H x=some y):Ke H' (ren r x)=some y:=by
 unfold WZ at h
 split at h
 ·simp only[ren,Ke];exact h
 ·split at h
  ·rename_i k g _ _ q b hl he
   obtain⟨c,d,e,_,_⟩:=a.at hl
   simp only[ren,Ke]
   grind
  ·cases h
 ·cases h
theorem iZ(q:Bool)(ds:List D):ren r (La q ds)=La q ds:=by
 unfold La
 split<;>simp[ren,Gn]
theorem wU(a q:Bool)(ds:List D)(ok:Bool):ren r (K9 a q ds ok)=K9 a q ds ok:=by
 unfold K9
 cases a
 ·exact iZ q ds
 ·simp only[ren,Aj,iZ]
theorem rA{t:TypeId}{i:TI}(hi:TIok P t i)(k:C8 r H H')(l:∀b,g=some b→b=true){x y:AV}{c:Bool}(h:RB i H x y c g a K):Fh P H' t (ren r x) (ren r y) c (KR r K):=by
 unfold RB at h
 split at h
 ·rename_i q z p o s ok vs n f j
  split at h
  ·rename_i m
   obtain⟨d,e⟩:M1 _ _ _ _ _:=Be l h.1
   simp only[Fh,hi.mp _ f,sv k j,ren]
   exact⟨yo m,.mk' h.2 (by rw[d,e,wU])⟩
  grind
 grind
theorem Mk{x:AV}{vs:List AV}(h:Cs x=some vs)(a:∀f xs ys,x≠.fn (.yield f) xs ys):Cs (ren r x)=some (Aj r vs):=by
 cases x<;>simp only[Cs,Yg]at h<;>try (cases h;done)
 case fn f xs ys=>
  subst h
  cases f with
  |yield i=>exact absurd rfl (a i xs ys)
  |_=>simp[ren,Aj,Cs]
 all_goals(subst h;simp[ren,Aj,Cs])
theorem Mx{x:AV}(h:HJ x=true):∀f xs ys,x≠.fn (.yield f) xs ys:=by
 rintro f xs ys rfl;cases h
theorem nB{t:TypeId}{i:TI}(hi:TIok P t i){f o n:Nat}(h:Zq i f=some (o,n)):fld P t f=some (o,n):=by
 unfold Zq at h
 split at h
 ·rename_i d c b a
  simp only[Yg,Fv]at h
  obtain⟨rfl,rfl⟩:=h
  exact(J4 hi a).1
 ·cases h
theorem fD{t:TypeId}{i:TI}(hi:TIok P t i):∀(ps:List (Nat×AV)) (z cs:List AV),(∀p∈ps,HJ p.2=true)→M9 i z ps=some cs→B5 (fld P t) (Aj r z) (ps.map fun p=>(p.1,ren r p.2))=some (Aj r cs)
 |[],z,cs,_,h=>by
  simp only[M9,Yg]at h
  subst h
  simp[B5]
 |(f,v)::ps,z,cs,e,h=>by
  simp only[M9]at h
  split at h
  ·rename_i off size vs a g
   split at h
   ·rename_i c d
    have c:=Ya c
    have d:=Yf d
    have b:=Mk (r:=r) g (Mx (e (f,v) (YM ..)))
    simp only[Y4,B5,nB hi a,b,Cb]
    rw[Yj (by omega)]
    have:=fD hi ps _ cs (fun p a=>e p (YH _ a)) h
    rw[←this]
    simp only[Fy,Er,D4]
   ·cases h
  ·cases h
theorem rz{t:TypeId}{i:TI}(hi:TIok P t i){parts:List (Nat×AV)}(e:∀p∈parts,HJ p.2=true)(f:∀z,i.zer=some z→Aj r z=z)(h:QA i parts a K):
  Et P t (parts.map fun p=>(p.1,ren r p.2)) (KR r K):=by
 unfold QA at h
 split at h
 ·rename_i z c b
  split at h
  ·rename_i cs d
   have:=fD (r:=r) hi _ _ _ e d
   unfold Et
   rw[hi.zer _ b]
   rw[f z b]at this
   simp only[this]
   exact⟨hi.str c,.mk' h rfl⟩
  grind
 grind
theorem vr{x:AV}(h:x.flat=true):ren r x=x:=by cases x<;>first|(simp[ren];done)|cases h
theorem Iy{z:List AV}(h:z.all AV.flat=true):Aj r z=z:=by
 induction z with
 |nil=>simp[Aj]
 |cons x z a=>
  simp only[Hf,Yb]at h
  rw[Aj,vr h.1,a h.2]
theorem gc{c x y:Operand}{ρ d:Operand→AV}{t:Bool}(e:ρ c=.d (.bool t))(b:d c=ren r (ρ c))(f:t=true→d x=ren r (ρ x))(hy:t=false→d y=ren r (ρ y))(h:tV T H (.pick c x y) ρ g a K):
  AS P H' (.pick c x y) d (KR r K):=by
 simp only[tV,e]at h
 rw[e]at b
 simp only[ren]at b
 simp only[AS,b]
 rw[ue]at h
 cases t
 ·exact .mk' h (by simp[hy rfl])
 ·exact .mk' h (by simp[f rfl])
theorem WE{ρ a:Operand→AV}{xs:List Operand}(h:∀x∈xs,a x=ren r (ρ x)):xs.map a=Aj r (xs.map ρ):=by
 rw[Es,Hg]
 exact EV h
theorem ig{ρ a:Operand→AV}{o:Option Operand}(h:∀x,o=some x→a x=ren r (ρ x)):o.map a=(o.map ρ).map (ren r):=by
 cases o with
 |none=>rfl
 |some x=>simp[h x rfl]
theorem gI{r:Ren}{b:Bool}{x y:AV}{a:AT}{K:AV→AT→Prop}(h:DA b x y (fun v=>K v a)):DA b (ren r x) (ren r y) (KR r K):=by
 unfold DA at h
 split at h
 ·simp only[ren,DA];exact .mk' h rfl
 grind
theorem uv(w:AX P T)(D:C8 r H H')(B:∀b,g=some b→b=true){op:Op}{ρ A:Operand→AV}(Z:∀x∈op.operands,A x=ren r (ρ x))(h:tV T H op ρ g a K):AS P H' op A (KR r K):=by
 have get:∀{x:Operand},x∈op.operands→A x=ren r (ρ x):=fun l=>Z _ l
 cases op<;>simp only[tV]at h<;>try exact h.elim
 case move x=>exact .mk' h (get (by simp[Op.operands]))
 case assign x=>exact .mk' h (get (by simp[Op.operands]))
 case pick c x y=>
  split at h
  ·rename_i t m
   exact gc (a:=a) (g:=g) (T:=T) (H:=H) m (get (by simp[Op.operands])) (fun _=>get (by simp[Op.operands])) (fun _=>get (by simp[Op.operands])) (by simp only[tV,m];exact h)
  ·grind
 case load t x=>
  split at h
  ·rename_i i hi;simp only[AS];rw[get (x:=x) (by simp[Op.operands])];exact Vz (w _ _ hi) D B h
  ·grind
 case fieldAddr t x f=>
  split at h
  ·rename_i i hi;simp only[AS];rw[get (x:=x) (by simp[Op.operands])];exact qO (w _ _ hi) D h
  ·grind
 case field t x f=>
  split at h
  ·rename_i i hi;simp only[AS];rw[get (x:=x) (by simp[Op.operands])];exact rj (w _ _ hi) h
  ·grind
 case indexAddr t x j=>
  split at h
  ·rename_i i hi;simp only[AS];rw[get (x:=x) (by simp[Op.operands]),get (x:=j) (by simp[Op.operands])];exact qP (w _ _ hi) D B h
  ·grind
 case index t x j=>
  split at h
  ·rename_i i hi;simp only[AS];rw[get (x:=x) (by simp[Op.operands]),get (x:=j) (by simp[Op.operands])];exact ro (w _ _ hi) B h
  ·grind
 case makeInterface t x=>
  split at h
  case h_2=>exact h.elim
  rename_i i hi
  have F:(i.str||i.elm.isSome)=true→H7 P t=true:=kh (w _ _ hi)
  simp only[AS]
  rw[get (x:=x) (by simp[Op.operands])]
  split at h
  ·rename_i xs E l
   rw[l]
   simp only[ren]
   split at h
   case h_2=>exact h.elim
   rename_i ds O
   have e:=Qo O
   subst e
   rw[Gn,O]
   exact⟨F E,.mk' h rfl⟩
  ·rename_i y E l
   rw[l]
   simp only[ren]
   exact⟨F E,.mk' h rfl⟩
  ·exact h.elim
 case typeAssert x u t ok=>
  split at h
  case h_2=>exact h.elim
  rename_i i hi
  have F:(i.str||i.elm.isSome)=true→H7 P t=true:=kh (w _ _ hi)
  simp only[AS]
  rw[get (x:=x) (by simp[Op.operands])]
  split at h
  case h_2=>exact h.elim
  rename_i u ds q E l
  rw[l]
  simp only[ren]
  split at h
  case h_2=>exact h.elim
  rename_i v X G
  rw[G]
  have I:ren r v=v:=by
   cases q with
   |true=>cases G;simp only[ren,Gn]
   |false=>
    match ds,G with
    |[d],G=>cases G;simp only[ren]
  refine⟨F E,Ya X,.mk' h ?_⟩
  cases ok with
  |true=>simp only[cond,ren,Aj,I]
  |false=>exact I.symm
 case extract x j=>
  simp only[AS]
  rw[get (x:=x) (by simp[Op.operands])]
  split at h
  ·rename_i vs l
   rw[l]
   simp only[ren,Gh]
   rw[BT]at h
   split at h
   ·rename_i y hy;rw[hy];exact .mk' h rfl
   grind
  ·grind
 case binOp o t x y u=>
  split at h
  ·rename_i i hi;simp only[AS];rw[get (x:=x) (by simp[Op.operands]),get (x:=y) (by simp[Op.operands])];exact sh (w _ _ hi) D B h
  ·grind
 case unOp o t x=>simp only[AS];rw[get (x:=x) (by simp[Op.operands])];exact td B h
 case nilCheck x=>
  split at h
  ·rename_i k q off l
   split at h
   ·rename_i hl
    simp only[AS]
    rw[get (x:=x) (by simp[Op.operands]),l]
    obtain⟨g1,Q,_,_,_⟩:=D.at hl
    simp only[ren,HV]
    exact⟨g1.symm▸rfl,Q,.mk' h (by simp[ren])⟩
   grind
  ·rename_i cs off l
   simp only[AS]
   rw[get (x:=x) (by simp[Op.operands]),l]
   simp only[ren,HV]
   exact .mk' h (by simp[ren])
  ·grind
 case convert s d x=>
  split at h
  ·rename_i i j hi V;simp only[AS];rw[get (x:=x) (by simp[Op.operands])];exact rI (w _ _ hi) (w _ _ V) B h
  ·grind
 case makeFunc fn first C=>
  have n:first.toList.map A=Aj r (first.toList.map ρ):=WE fun x l=>get (by simp only[Op.operands,Lx];exact .inl (by simpa using l))
  have J:C.toList.map A=Aj r (C.toList.map ρ):=WE fun x l=>get (by simp only[Op.operands,Lx];exact .inr (by simpa using l))
  simp only[AS]
  rw[n,J]
  split at h
  ·grind
  ·rename_i M
   refine .mk' h ?_
   cases fn<;>first|exact absurd rfl (M _)|simp[ren]
 case slice t x lo hi mx=>
  split at h
  ·rename_i i L
   simp only[AS]
   rw[get (x:=x) (by simp[Op.operands]),ig (o:=lo) (fun y hy=>get (by subst hy;simp[Op.operands])),ig (o:=hi) (fun y hy=>get (by subst hy;simp[Op.operands]))]
   exact rP (w _ _ L) D B h
  ·grind
 case build t parts=>
  split at h
  ·rename_i i hi F
   simp only[AS]
   have e:(parts.toList.map fun p=>(p.1,A p.2))=(parts.toList.map fun p=>(p.1,ρ p.2)).map fun p=>(p.1,ren r p.2):=by
    rw[Hg]
    refine EV fun p N=>?_
    simp only[Function.comp]
    rw[get (x:=p.2) (by simp only[Op.operands,Ly,YU];exact⟨p,N,rfl⟩)]
   rw[e]
   refine rz (w _ _ hi) (fun p N=>?_) (fun z Y=>Iy ((w _ _ hi).flt z Y)) h
   obtain⟨q,hq,rfl⟩:=YU.1 N
   grind
  ·grind
 case lookup t x y ck=>
  split at h
  ·rename_i i hi;simp only[AS];rw[get (x:=x) (by simp[Op.operands]),get (x:=y) (by simp[Op.operands])];exact rA (w _ _ hi) D B h
  ·grind
 case call c=>
  split at h
  ·rename_i x t m l W
   split at h
   ·rename_i i hi
    have n:c.args=#[x]:=CD (by simpa using l)
    have J:c.argTypes=#[t]:=CD (by simpa using W)
    simp only[AS,m,n,J]
    show 1=1∧Dg P H' t (A x) (KR r K)
    rw[get (x:=x) (by simp[Op.operands,Call.operands,m,n])]
    exact⟨rfl,sX (w _ _ hi) D B h⟩
   grind
  ·rename_i x y m l
   have n:c.args=#[x,y]:=CD (by simpa using l)
   simp only[AS,m,n]
   show DA false (A x) (A y) (KR r K)
   rw[get (x:=x) (by simp[Op.operands,Call.operands,m,n]),get (x:=y) (by simp[Op.operands,Call.operands,m,n])]
   exact gI h
  ·rename_i x y m l
   have n:c.args=#[x,y]:=CD (by simpa using l)
   simp only[AS,m,n]
   show DA true (A x) (A y) (KR r K)
   rw[get (x:=x) (by simp[Op.operands,Call.operands,m,n]),get (x:=y) (by simp[Op.operands,Call.operands,m,n])]
   exact gI h
  ·rename_i x y z m l
   have n:c.args=#[x,y,z]:=CD (by simpa using l)
   simp only[AS,m,n]
   show FN true (A x) (A y) (A z) (KR r K)
   rw[get (x:=x) (by simp[Op.operands,Call.operands,m,n]),get (x:=y) (by simp[Op.operands,Call.operands,m,n]),get (x:=z) (by simp[Op.operands,Call.operands,m,n])]
   unfold FN at h
   split at h
   ·rename_i R S U
    rw[R,S,U]
    simp only[ren,FN];exact .mk' h rfl
   grind
  ·grind
end
abbrev Cp:=List (Nat×Bool)
abbrev Bl:=List (Nat×Cp)
def lk:Bl→Nat→Cp
 |[],_=>[]
 |(i,c)::r,j=>match Nat.beq i j with|true=>c|false=>lk r j
def Nw(t:Bool):Bool→Bool
 |true=>t
 |false=>!t
theorem VW{t b:Bool}:Nw t b=true↔t=b:=by cases t<;>cases b<;>simp[Nw]
def IX:Cp→Cp→Bool
 |[],[]=>true
 |(i,a)::r,(j,b)::q=>Nat.beq i j&&Nw a b&&IX r q
 |_,_=>false
theorem Wq:∀{a b:Cp},IX a b=true→a=b
 |[],[],_=>rfl
 |(i,a)::r,(j,b)::q,h=>by
  simp only[IX,Yb]at h
  rw[Ya h.1.1,VW.1 h.1.2,Wq h.2]
 |[],_::_,h=>by simp[IX]at h
 |_::_,[],h=>by simp[IX]at h
def O2(a:Cp):Cp→Bool
 |[]=>IX a []
 |q::b=>IX a (q::b)||O2 a b
theorem hU{a:Cp}:∀{b:Cp},O2 a b=true→∀q∈a,q∈b
 |[],h,q,c=>by rw[Wq h]at c;exact c
 |p::b,h,q,c=>by
  simp only[O2,Yt]at h
  rcases h with h|h
  ·rw[Wq h]at c;exact c
  ·exact YH _ (hU h q c)
def Cq(s:Nat→AV)(c:Cp):Prop:=∀q∈c,s q.1=.d (.bool q.2)
def Fb(s:Nat→AV):Cp→Option Bool
 |[]=>some true
 |[(d,b)]=>match s d with|.d (.bool t)=>some (Nw t b)|_=>none
 |(d,b)::r=>match s d,Fb s r with|.d (.bool t),some c=>some (c&&Nw t b)|_,_=>none
theorem Hq{s:Nat→AV}:∀{c:Cp} {g:Bool},Fb s c=some g→(g=true↔Cq s c)
 |[],g,h=>by simp only[Fb,Yg]at h;subst h;simp[Cq]
 |[(d,b)],g,h=>by
  simp only[Fb]at h
  split at h
  ·rename_i t f
   simp only[Yg]at h
   subst h
   rw[VW]
   simp[Cq,f]
  ·cases h
 |(d,b)::q::r,g,h=>by
  simp only[Fb]at h
  split at h
  ·rename_i t c f i
   simp only[Yg]at h
   subst h
   have j:=Hq i
   rw[Yb,j,VW]
   constructor
   ·rintro⟨e,rfl⟩ p a
    rcases YK.1 a with rfl|a
    ·exact f
    ·exact e p a
   ·intro e
    refine⟨fun p a=>e p (YH _ a),?_⟩
    have:=e (d,b) (YM ..)
    grind
  ·cases h
def IE(e:Nat)(c:Cp):Bool:=c.all fun q=>!Nat.beq q.1 e
def fresh(e:Nat)(env:Bl):Bool:=env.all fun p=>IE e p.2
theorem hJ{s:Nat→AV}{e:Nat}{v:AV}{c:Cp}(h:IE e c=true):Cq (upd s e v) c↔Cq s c:=by
 have key:∀q∈c,upd s e v q.1=s q.1:=fun q a=>by
  have:=Yk.1 h q a
  unfold upd
  rw[Yj]
  intro he
  subst he
  simp at this
 constructor
 ·exact fun h q a=>(key q a)▸h q a
 ·exact fun h q a=>(key q a).trans (h q a)
theorem ip{e:Nat}:∀{env:Bl},fresh e env=true→∀j,IE e (lk env j)=true
 |[],_,j=>rfl
 |(i,c)::r,h,j=>by
  simp only[fresh,Hf,Yb]at h
  simp only[lk]
  split
  ·exact h.1
  ·exact ip h.2 j
theorem Wu{env:Bl}{e:Nat}{c:Cp}(j:Nat):lk ((e,c)::env) j=if j=e then c else lk env j:=by
 simp only[lk]
 by_cases h:j=e
 ·subst h;simp
 ·rw[Yj h]
  split
  ·rename_i a;exact absurd (Ya a).symm h
  ·rfl
def GY(env:Bl)(c:Cp):Operand→Bool
 |.tmp t=>O2 (lk env t) c
 |_=>true
def BV(env:Bl)(c:Cp):Op→Bool
 |.pick (.tmp d) x y=>GY env c (.tmp d)&&GY env ((d,true)::c) x&&GY env ((d,false)::c) y
 |op=>op.operands.toList.all (GY env c)
structure RenOk (r:Ren) (l outs:Nat):Prop where
 own:∀d,r.κ (1,d)=(l+1,d)
 out:∀i,i<outs→(r.κ (0,i)).1≤l
 inj:∀i j,i<outs→j<outs→r.κ (0,i)=r.κ (0,j)→i=j
 no:∀k,r.no k→∃i,i<outs∧r.κ (0,i)=k
structure RG (r:Ren) (l outs:Nat) (env:Bl) (τ σ:St):Prop where
 s:∀j,(Cq τ.s (lk env j)→σ.s j=ren r (τ.s j))∧(¬Cq τ.s (lk env j)→σ.s j=.tup [])
 h:C8 r τ.H σ.H
 g:∀d,(σ.H (l+1,d)).g=r.γ (1,d)+(τ.H (1,d)).g
 go:∀i,i<outs→(σ.H (r.κ (0,i))).g=r.γ (0,i)+(τ.H (0,i)).g
 k:∀k,(τ.H k).live=true→k.1=1∨(k.1=0∧k.2<outs)
 o:∀k:Ab,k.1≤l→¬r.no k→σ.H k=r.H0 k
def FG(P:Program)(l:Nat)(r:Ren)(f:FuncId)(xs:List AV)(c:List (Ab×Blk))(x:AV):Prop:=
 ∀a,(∀p∈c,p.2.live=true→a (r.κ p.1)=AA r p.1 p.2)→(∀k:Ab,k.1≤l→¬r.no k→a k=r.H0 k)→Zca P f (l+1) (Aj r xs) a (fun y b=>y=ren r x∧b=a)
def Kk(P:Program)(l:Nat)(r:Ren)(i:Nat)(xs:List AV)(d:List (Ab×Blk))(x:AV):Prop:=
 ∃f first a,r.θ i=.fn (.func f) first a∧∀b,(∀p∈d,p.2.live=true→b (r.κ p.1)=AA r p.1 p.2)→(∀k:Ab,k.1≤l→¬r.no k→b k=r.H0 k)→Zca P f (l+1) (first++Aj r xs++a) b (fun y c=>y=ren r x∧c=b)
def Q0(P:Program)(l:Nat)(r:Ren)(H:Hp)(f:AV)(xs:List AV)(g:Option Bool)(a:AT)(K:AV→AT→Prop):Prop:=
 match f,a with
 |.fn (.func i) first b,.call x ks a=>A4 g (FG P l r i (first++xs++b) (ks.map fun k=>(k,H k)) x)∧K x a
 |.fn (.yield i) _ _,.call x ks a=>A4 g (Kk P l r i xs (ks.map fun k=>(k,H k)) x)∧K x a
 |_,_=>False
def RP(T:Nat→Option TI)(τ:St)(t:TypeId)(len:Nat)(parts:List (Nat×Operand))(a:AT)(K:AV→AT→Prop):Prop:=
 match T t with
 |some i=>(match i.elm with
  |some (e,sz)=>(match Nat.ble 1 sz,len with
   |true,0=>(match parts with|[]=>K .e0 a|_=>False)
   |true,len+1=>(match T e,Nat.ble ((len+1)*sz) 16777216 with
    |some j,true=>(match j.zer with
     |some z=>(match Nat.beq z.length sz,EP sz 0 (parts.map fun p=>(p.1,ev τ.s p.2))with
      |true,some es=>(match Nat.beq es.length (len+1)with|true=>K (.d (.list es)) a|false=>False)
      |_,_=>False)
     |none=>False)
    |_,_=>False)
   |_,_=>False)
  |none=>False)
 |none=>False
def pV(P:Program)(T:Nat→Option TI)(l:Nat)(r:Ren)(τ:St)(op:Op)(g:Option Bool)(a:AT)(K:AV→AT→Prop):Prop:=
 match op with
 |.call c=>match c.callee with
  |.value f=>Q0 P l r τ.H (ev τ.s f) (c.args.toList.map (ev τ.s)) g a K
  |_=>tV T τ.H op (ev τ.s) g a K
 |.buildSlice t len parts=>RP T τ t len parts.toList a K
 |op=>tV T τ.H op (ev τ.s) g a K
def D9(n d:Nat)(K:St→AT→Prop)(τ:St)(v:AV)(a:AT):Prop:=
 match Nat.ble (d+1) n with
 |true=>K ⟨upd τ.s d v,τ.H⟩ a
 |false=>False
section
variable {P:Program} {T:Nat→Option TI} {r:Ren} {l n outs:Nat} {env:Bl} {τ σ:St} {g:Option Bool} {a:AT} {c:Cp}
theorem nu(v:Value):ren r (cv v)=cv v:=by unfold cv;split<;>simp[ren]
theorem ID(h:RG r l outs env τ σ)(hs:Cq τ.s c){x:Operand}(b:GY env c x=true):ev σ.s x=ren r (ev τ.s x):=by
 cases x with
 |tmp t=>exact(h.s t).1 fun q a=>hs q (hU b q a)
 |const v=>exact(nu v).symm
 |global g=>simp[ev,ren]
 |func f=>simp[ev,ren,Aj]
theorem E0(h:RG r l outs env τ σ)(hs:Cq τ.s c){op:Op}(a:op.operands.toList.all (GY env c)=true):∀x∈op.operands,ev σ.s x=ren r (ev τ.s x):=
 fun x hm=>ID h hs (Yk.1 a x (by simpa using hm))
theorem j8(u:AX P T)(h:RG r l outs env τ σ)(hs:Cq τ.s c)(v:∀b,g=some b→b=true){op:Op}(i:BV env c op=true){K:AV→AT→Prop}(j:tV T τ.H op (ev τ.s) g a K):
  AS P σ.H op (ev σ.s) (KR r K):=by
 unfold BV at i
 split at i
 ·rename_i d x y
  simp only[Yb]at i
  obtain⟨⟨o,p⟩,s⟩:=i
  have f:=j
  simp only[tV]at f
  split at f
  ·rename_i t m
   have n:=ID h hs o
   refine gc (T:=T) (H:=τ.H) (g:=g) (a:=a) m n (fun e=>ID h (c:=(d,true)::c) ?_ p) (fun e=>ID h (c:=(d,false)::c) ?_ s) j
   all_goals
    subst e
    intro q k
    rcases YK.1 k with rfl|k
    ·exact m
    ·exact hs q k
  grind
 ·exact uv u h.h v (E0 h hs i) j
theorem VH(h:RG r l outs env τ σ)(hs:Cq τ.s c)(t:∀b,g=some b→b=true){cl:Call}{f:Operand}(q:cl.callee=.value f)(m:BV env c (.call cl)=true){K:AV→AT→Prop}
  (e:Q0 P l r τ.H (ev τ.s f) (cl.args.toList.map (ev τ.s)) g a K):
  ∃i first d x j,ev σ.s f=.fn (.func i) first d∧Zca P i (l+1) (first++cl.args.toList.map (ev σ.s)++d) σ.H (fun y u=>y=ren r x∧u=σ.H)∧K x j:=by
 have m:(Op.call cl).operands.toList.all (GY env c)=true:=m
 have s:=E0 h hs m f (by simp[Op.operands,Call.operands,q])
 have n:cl.args.toList.map (ev σ.s)=Aj r (cl.args.toList.map (ev τ.s)):=WE fun x hm=>E0 h hs m x (by simp only[Op.operands,Call.operands,q,Lx];exact .inr (by simpa using hm))
 have o:∀ks:List Ab,∀p∈ks.map fun k=>(k,τ.H k),p.2.live=true→σ.H (r.κ p.1)=AA r p.1 p.2:=fun ks p e hl=>by
  obtain⟨k,B,rfl⟩:=YU.1 e
  exact h.h k hl
 unfold Q0 at e
 split at e
 ·rename_i i first d x ks j he
  have w:FG _ _ _ _ _ _ _:=Be t e.1
  refine⟨i,Aj r first,Aj r d,x,j,by rw[s,he];simp[ren],?_,e.2⟩
  rw[n,←Fy,←Fy]
  exact w σ.H (o ks) h.o
 ·rename_i i xs ys x ks j he
  obtain⟨v,first,d,z,A⟩:Kk _ _ _ _ _ _ _:=Be t e.1
  refine⟨v,first,d,x,j,by rw[s,he];simp[ren,z],?_,e.2⟩
  rw[n]
  exact A σ.H (o ks) h.o
 grind
theorem RG.put(h:RG r l outs env τ σ){e:Nat}{ch:Cp}(b:fresh e env=true)(c:IE e ch=true){v:AV}{y:AV}(hy:Cq τ.s ch→y=ren r v)(d:¬Cq τ.s ch→y=.tup []):
  RG r l outs ((e,ch)::env) ⟨upd τ.s e v,τ.H⟩ ⟨upd σ.s e y,σ.H⟩:=by
 refine⟨fun j=>?_,h.h,h.g,h.go,h.k,h.o⟩
 simp only
 rw[Wu]
 by_cases a:j=e
 ·subst a
  rw[Yi rfl,hJ c]
  simp only[upd,Yv]
  grind
 ·rw[Yj a,hJ (ip b j)]
  simp only[upd,Yj a]
  exact h.s j
end
section
variable {P:Program} {l n:Nat} {H:Hp} {m:Mu} {S:Nat→Prop} {w w':World} {s:Nat→AV} {a:Act}
theorem Ok.allocO(h:Ok l H m S w)(k:Ab)(P:k.1≤l)(b:Blk)(K:b.e.isO=true)(u:b.cells=[])(O:(H k).g<b.g)(o:Obj)(D:w'.heap=w.heap.push o)
  (J:HE w' S w.heap.size b.e) (F:w'.os=w.os) (G:w'.tape=w.tape) (I:w'.output=w.output):
  Ok l (updH H k b) (AY m k ⟨w.heap.size,0,0⟩) S w'∧Ext l H m S w (updH H k b) (AY m k ⟨w.heap.size,0,0⟩) S w':=by
 have d:∀i,i<w.heap.size→w'.heap[i]?=w.heap[i]?:=fun i hi=>by rw[D,Jt,Yj (by omega)]
 have j:Ext l H m S w (updH H k b) (AY m k ⟨w.heap.size,0,0⟩) S w':=by
  refine⟨fun _ h=>h,fun i hi=>d i (h.sub i hi),fun q a=>?_,fun q a y hl=>?_,F,G,I,by rw[D];simp⟩
  ·by_cases e:q=k
   ·subst e;rw[AH];omega
   ·rw[Av _ _ e];exact Yh _
  ·by_cases e:q=k
   ·subst e;rw[AH]at y;omega
   ·rw[Av _ _ e]at hl⊢;rw[AL _ _ e];exact⟨hl,rfl,rfl⟩
 have B:∀q:Ab,q.1≤l→(H q).live=true→(m q).cap≠0→(m q).b<w.heap.size:=fun q a hl n=>by
  obtain⟨C,t,_⟩:=h.blk q a hl n
  grind
 have A:∀q:Ab,q.1≤l→(H q).live=true→(H q).e.isO=true→(m q).b<w.heap.size:=fun q a hl n=>by
  obtain⟨C,t,_⟩:=(h.mp.o q a hl).at n
  grind
 refine⟨⟨fun i hi=>?_,fun q a hl c=>?_,fun q a hl c=>?_,fun q s a r hl f c g heq=>?_,fun q a hl c=>?_,
  ⟨fun q a hl=>?_,fun q a hl he=>?_,fun q s a r hl f he p heq=>?_⟩⟩,j⟩
 ·have:=h.sub i hi;rw[D];simp;omega
 ·by_cases e:q=k
  ·subst e;rw[AH];exact u
  ·rw[Av _ _ e]at hl⊢;rw[AL _ _ e]at c;exact h.empty q a hl c
 ·by_cases e:q=k
  ·subst e;rw[AO]at c;exact absurd rfl c
  ·rw[Av _ _ e]at hl;rw[AL _ _ e]at c⊢;exact h.fresh q a hl c
 ·by_cases e:q=k
  ·subst e;rw[AO]at c;exact absurd rfl c
  ·by_cases e':s=k
   ·subst e';rw[AO]at g;exact absurd rfl g
   ·rw[AL _ _ e,AL _ _ e']at heq
    rw[Av _ _ e]at hl;rw[Av _ _ e']at f
    rw[AL _ _ e]at c;rw[AL _ _ e']at g
    exact h.inj q s a r hl f c g heq
 ·by_cases e:q=k
  ·subst e;rw[AO]at c;exact absurd rfl c
  ·rw[Av _ _ e]at hl⊢
   rw[AL _ _ e]at c⊢
   obtain⟨C,t,hs,z,N⟩:=h.blk q a hl c
   refine⟨C,by rw[d _ (B q a hl c)];exact t,hs,z,fun i x v hi M=>?_⟩
   obtain⟨E,g2⟩:=N i x v hi M
   exact⟨E,g2.ext j a⟩
 ·by_cases e:q=k
  ·subst e;rw[AH,AO];exact J
  ·rw[Av _ _ e]at hl⊢;rw[AL _ _ e]
   exact(h.mp.o q a hl).mono (fun _ h=>h) (fun i hi=>d i (h.sub i hi)) (fun L=>d _ (A q a hl L))
 ·by_cases e:q=k
  ·subst e;rw[AO];exact⟨⟨rfl,rfl⟩,fun hs=>by have:=h.sub _ hs;simp at this⟩
  ·rw[Av _ _ e]at hl he;rw[AL _ _ e];exact h.mp.c q a hl he
 ·by_cases e:q=k<;>by_cases e':s=k
  ·grind
  ·subst e
   rw[AO,AL _ _ e']at heq
   rw[Av _ _ e']at f p
   grind
  ·subst e'
   rw[AO,AL _ _ e]at heq
   rw[Av _ _ e]at hl he
   grind
  ·rw[AL _ _ e,AL _ _ e']at heq
   rw[Av _ _ e]at hl he;rw[Av _ _ e']at f p
   exact h.mp.i q s a r hl f he p heq
theorem Ok.writeO(h:Ok l H m S w)(k:Ab)(y:k.1≤l)(hl:(H k).live=true)(t:(H k).e.isO=true)(e':EK)(n:e'.isO=true)(o:Obj)
  (F:∀b,w'.heap[b]?=if b=(m k).b then some o else w.heap[b]?) (B:w'.heap.size=w.heap.size) (L:HE w' S (m k).b e') (I:w'.os=w.os) (J:w'.tape=w.tape) (K:w'.output=w.output):
  Ok l (updH H k {H k with e:=e' }) m S w'∧Ext l H m S w (updH H k {H k with e:=e' }) m S w':=by
 obtain⟨R,T⟩:=h.mp.c k y hl t
 have j:Ext l H m S w (updH H k {H k with e:=e' }) m S w':=by
  refine⟨fun _ h=>h,fun b s=>?_,fun q d=>?_,fun q d U a=>?_,I,J,K,by omega⟩
  ·grind
  ·by_cases e:q=k
   ·subst e;rw[AH];exact Yh _
   ·rw[Av _ _ e];exact Yh _
  ·by_cases e:q=k
   ·subst e;rw[AH]at a⊢;exact⟨a,rfl,rfl⟩
   ·rw[Av _ _ e]at a⊢;exact⟨a,rfl,rfl⟩
 have f:∀q:Ab,(updH H k {H k with e:=e' } q).live=(H q).live:=fun q=>by
  by_cases e:q=k
  ·subst e;rw[AH]
  ·rw[Av _ _ e]
 have g:∀q:Ab,(H q).e.isO=(updH H k {H k with e:=e' } q).e.isO:=fun q=>by
  by_cases e:q=k
  ·subst e;rw[AH];exact t.trans n.symm
  ·rw[Av _ _ e]
 refine⟨⟨fun b s=>?_,fun q d a r=>?_,fun q d a r=>?_,fun q E d p a c r D heq=>?_,fun q d a r=>?_,
  ⟨fun q d a=>?_,fun q d a he=>?_,fun q E d p a c he n heq=>?_⟩⟩,j⟩
 ·rw[B];exact h.sub b s
 ·rw[f]at a
  have:=h.empty q d a r
  by_cases e:q=k
  ·subst e;rw[AH];exact this
  ·rw[Av _ _ e];exact this
 ·rw[f]at a;exact h.fresh q d a r
 ·rw[f]at a c;exact h.inj q E d p a c r D heq
 ·rw[f]at a
  by_cases e:q=k
  ·grind
  ·rw[Av _ _ e]
   obtain⟨C,s,hs,z,O⟩:=h.blk q d a r
   have A:(m q).b≠(m k).b:=fun u=>by
    obtain⟨V,P,Q⟩:=(h.mp.o k y hl).at t
    rw[u,P]at s;cases s;cases Q
   refine⟨C,by rw[F,Yj A];exact s,hs,z,fun i x v hi N=>?_⟩
   obtain⟨G,g2⟩:=O i x v hi N
   exact⟨G,g2.ext j d⟩
 ·rw[f]at a
  by_cases e:q=k
  ·subst e;rw[AH];exact L
  ·rw[Av _ _ e]
   refine(h.mp.o q d a).mono (fun _ h=>h) j.blk (fun M=>?_)
   rw[F,Yj (fun u=>e (h.mp.i q k d y a hl M t u))]
 ·rw[f]at a;rw[←g]at he;exact h.mp.c q d a he
 ·rw[f]at a c;rw[←g]at he n;exact h.mp.i q E d p a c he n heq
theorem MEnt.push{q:Bool}{es:List (List D)}{ents:Array MapEntry}{a:Nat}{s:ByteArray}{ds:List D}{v:Value}(h:MEnt w S q es ents a)(g:VR w S q ds v):
  MEnt w S q (es++[.str s::ds]) (ents.push {key:=.string s,val:=v,born:=a }) (a+1):=by
 have b:∀(i:Nat) (y:MapEntry),(ents.push {key:=.string s,val:=v,born:=a })[i]?=some y→(i=ents.size∧y={key:=.string s,val:=v,born:=a })∨(i≠ents.size∧ents[i]?=some y):=fun i y hy=>by
  grind
 refine⟨by simp[h.n],fun i k y z hy j e=>?_,fun i y hy=>?_,fun i e y hi hy=>?_⟩
 ·rcases b i y hy with⟨rfl,rfl⟩|⟨a1,c⟩<;>rcases b k z j with⟨rfl,rfl⟩|⟨l,f⟩
  ·rfl
  ·have:=h.clk k z f;simp only at e;omega
  ·have:=h.clk i y c;simp only at e;omega
  ·exact h.born i k y z c f e
 ·rcases b i y hy with⟨rfl,rfl⟩|⟨a1,c⟩
  ·grind
  ·exact Nat.lt_succ_of_lt (h.clk i y c)
 ·rcases b i y hy with⟨rfl,rfl⟩|⟨a1,c⟩
  ·rw[h.n,Yy (Yh _),Nat.sub_self]at hi
   cases hi
   exact⟨s,ds,rfl,rfl,g⟩
  ·have d:i<es.length:=by rw[←h.n];exact Iv c
   rw[Yo d]at hi
   exact h.e i e y hi c
end
end Go.Eng
