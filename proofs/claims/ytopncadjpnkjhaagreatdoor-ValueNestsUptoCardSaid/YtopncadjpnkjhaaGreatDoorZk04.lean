import Derived.Test.YtopncadjpnkjhaaGreatDoorZk03
import Derived.Test.YtopncadjpnkjhaaGreatDoorZk01
import Derived.Maps.RangeRun
import Derived.Test.YtopncadjpnkjhaaGreatDoorZk00
namespace Go.Eng
open Go
set_option linter.all false
inductive Waits (ops:Array Oper):Nat→Nat→Prop
 |one {j i:Nat} {oj:Oper} {e:Edge} (hj:ops[j]?=some oj) (he:e∈oj.after) (hb:Region.binds .any e=true) (hi:e.on=i):Waits ops j i
 |more {j m i:Nat} {oj:Oper} {e:Edge} (hj:ops[j]?=some oj) (he:e∈oj.after) (hb:Region.binds .any e=true) (hm:e.on=m) (h:Waits ops m i):Waits ops j i
def LI(L:List Oper)(i:Nat):Nat→Nat→Bool
 |0,_=>false
 |a+1,j=>match A2 L j with|some b=>b.after.toList.any fun e=>Region.binds .any e&&(Nat.beq e.on i||LI L i a e.on)|none=>false
theorem Ue{L:List Oper}{i:Nat}:∀(a j:Nat),LI L i a j=true→Waits L.toArray j i
 |0,j,h=>by cases h
 |a+1,j,h=>by
  unfold LI at h
  rw[BM]at h
  split at h
  ·rename_i f d
   obtain⟨e,he,h⟩:=YG.1 h
   rw[Yb,Yu]at h
   have c:L.toArray[j]?=some f:=by simpa using d
   rcases h.2 with b|b
   ·exact .one c (by simpa using he) h.1 (Ya b)
   ·exact .more c (by simpa using he) h.1 rfl (Ue a _ b)
  ·cases h
def DC(ops:Array Oper)(listed:Array Bool):Prop:=∀(m:Nat) (a:Oper),ops[m]?=some a→listed.getD m false=true→∀e∈a.after,Region.binds .any e=true→listed.getD e.on false=true
theorem DC.waits{ops:Array Oper}{listed:Array Bool}(h:DC ops listed){j i:Nat}(c:Waits ops j i):listed.getD j false=true→listed.getD i false=true:=by
 induction c with
 |one b he a hi=>intro hl;rw[←hi];exact h _ _ b hl _ he a
 |more b he a hm _ d=>intro hl;exact d (by rw[←hm];exact h _ _ b hl _ he a)
theorem tu{listed:Array Bool}{i:Nat}(h:listed.getD i true=false):listed.getD i false=false:=by
 grind
theorem DC.ready{ops:Array Oper}{listed:Array Bool}(h:DC ops listed){j:Nat}(f:j∈Region.ready .any ops listed):DC ops (listed.setIfInBounds j true):=by
 obtain⟨i,k,c,a⟩:=mem_ready.1 f
 intro m g hm hl e he d
 by_cases b:j=m
 ·subst b
  rw[c]at hm
  cases hm
  exact getD_set_true (a e he d)
 ·rw[getD_set_ne false b]at hl
  exact getD_set_true (h m g hm hl e he d)
theorem DC.nowait{ops:Array Oper}{listed:Array Bool}(h:DC ops listed){j i:Nat}(g:j∈Region.ready .any ops listed)(hi:listed.getD i true=false):¬Waits ops j i:=fun k=>by
 obtain⟨l,m,c,b⟩:=mem_ready.1 g
 have hi:=tu hi
 cases k with
 |one a he e f=>
  grind
 |more a he e hm d=>
  rw[c]at a
  cases a
  have:=h.waits d (by rw[←hm];exact b _ he e)
  grind
def Bw(o:Oper):Bool:=match o.op,o.dst,o.guard with
 |.store _ _ _,none,none=>true
 |_,_,_=>false
def FE(o:Oper):Bool:=match o.op with
 |.move _=>true
 |.binOp b _ _ _ _=>(match b with|.add=>true|.sub=>true|_=>false)
 |.indexAddr _ _ _=>true
 |.fieldAddr _ _ _=>true
 |.nilCheck _=>true
 |_=>false
def RW(H H':Hp):Prop:=∀k,(H' k).g=(H k).g∧(H' k).live=(H k).live∧(H' k).sz=(H k).sz
def K3(L:List Oper)(p:Oper)(k:Nat):Bool:=BF p k||p.after.toList.any fun e=>Region.binds .any e&&(match L[e.on]? with|some a=>BF a k|none=>false)
def Nu(L:List Oper)(o:Oper)(k:Nat):Nat→List Oper→Bool
 |_,[]=>true
 |j,p::r=>(match Bw o with|true=>BF p k|false=>true)&&(match Bw p with|true=>FE o||K3 L p k|false=>true)&&!BF o j&&Nu L o k (j+1) r
def IB(L:List Oper):Nat→List Oper→Bool
 |_,[]=>true
 |k,o::r=>Nu L o k (k+1) r&&IB L (k+1) r
theorem fG{L:List Oper}{o:Oper}{k:Nat}:∀{l:List Oper} {j i:Nat} {p:Oper},Nu L o k j l=true→l[i]?=some p→(Bw o=true→BF p k=true)∧(Bw p=true→FE o=true∨K3 L p k=true)∧BF o (j+i)=false
 |[],j,i,p,_,h=>by simp at h
 |q::r,j,i,p,a,h=>by
  simp only[Nu,Yb,YN]at a
  cases i with
  |zero=>
   grind
  |succ i=>
   have:=fG a.2 (i:=i) (by simpa using h)
   grind
theorem VC{L:List Oper}:∀{l:List Oper} {k i j:Nat} {o p:Oper},IB L k l=true→i<j→l[i]?=some o→l[j]?=some p→(Bw o=true→BF p (k+i)=true)∧(Bw p=true→FE o=true∨K3 L p (k+i)=true)∧BF o (k+j)=false
 |[],k,i,j,o,p,_,_,h,_=>by simp at h
 |q::r,k,i,j,o,p,b,c,h,a=>by
  simp only[IB,Yb]at b
  cases j with
  |zero=>omega
  |succ j=>
   have a:r[j]?=some p:=by simpa using a
   cases i with
   |zero=>
    simp only[Y2,Yf]at h
    subst h
    have:=fG b.1 a
    grind
   |succ i=>
    have:=VC b.2 (Nat.lt_of_succ_lt_succ c) (by simpa using h) a
    grind
theorem U3{p:Oper}{k:Nat}(h:BF p k=true)(b:∀e∈p.after,Region.binds .any e=true→e.on≠k):False:=by
 unfold BF at h
 rw[YG]at h
 obtain⟨e,he,a⟩:=h
 simp only[Yb]at a
 exact b e (by simpa using he) a.1 (Ya a.2)
section
variable {P:Program} {l n:Nat} {B:Base} {H H':Hp} {ops:Array Oper} {ρ:Operand→AV}
theorem Zq{o:Oper}{v:AV}(h:FE o=true)(hs:RW H H')(a:qV P l H o ρ v):qV P l H' o ρ v:=by
 obtain⟨e,op,type,pos,after,guard⟩:=o
 cases op<;>simp only[FE]at h<;>first|(cases h;done)|skip
 case move=>exact a
 case nilCheck=>
  simp only[qV,AP]at a⊢
  unfold G4 at a⊢
  split at a
  ·rename_i k g off _
   obtain⟨b,c,d⟩:=hs k
   grind
  ·exact a
  ·grind
 case fieldAddr=>
  simp only[qV,AP]at a⊢
  unfold DQ at a⊢
  split at a
  ·exact a
  ·rename_i k g off o n _ _
   obtain⟨b,c,d⟩:=hs k
   grind
  ·grind
 case indexAddr=>
  simp only[qV,AP]at a⊢
  unfold Dq at a⊢
  split at a
  ·exact a
  ·rename_i k g off len _ n _ sz _ _ _
   obtain⟨b,c,d⟩:=hs k
   grind
  ·grind
 case binOp=>
  simp only[qV,AP]at a⊢
  unfold B4 at a⊢
  split at a
  ·exact a
  ·exact a
  ·grind
  ·exact a
  ·grind
  ·grind
theorem ld{o:Oper}{s:Nat→AV}{v:AV}(h:FE o=true)(hs:RW H H')(a:YA P l H ops o s v):YA P l H' ops o s v:=by
 unfold YA at a⊢
 split at a
 ·exact Zq h hs a
 ·split at a
  ·exact⟨fun e=>Zq h hs (a.1 e),a.2⟩
  grind
def EX(P:Program)(l:Nat)(o:Oper)(s:Nat→AV)(H H':Hp):Prop:=match o.op with
 |.store t a x=>match ev s a,Cf (ev s x)with
  |.ptr k g off,some vs=>g=(H k).g∧(H k).live=true∧vs.length=P.cellsOf t∧vs≠[]∧off+vs.length≤(H k).cells.length∧(k.1=l+1∨vs.all (AV.low k.1)=true)∧
    H'=updH H k {H k with cells:=(H k).cells.take off++vs++(H k).cells.drop (off+vs.length) }
  |_,_=>False
 |_=>False
theorem uj{o:Oper}{s:Nat→AV}(h:EX P l o s H H'):RW H H':=by
 unfold EX at h
 split at h
 ·split at h
  ·obtain⟨_,_,_,_,_,_,rfl⟩:=h
   intro k
   unfold updH
   grind
  grind
 grind
theorem vH{o:Oper}{s:Nat→AV}{K:St→Prop}(hs:Bw o=true)(h:A9 P l n o K ⟨s,H⟩):∃H',EX P l o s H H'∧K ⟨s,H'⟩:=by
 obtain⟨a,op,type,pos,after,guard⟩:=o
 cases op<;>simp only[Bw]at hs<;>first|(cases hs;done)|skip
 cases a with
 |some d=>cases hs
 |none=>
  simp only[A9]at h
  simp only[EX]
  grind
theorem wt{o:Oper}{s:Nat→AV}{K:St→Prop}(hs:Bw o=true)(h:EX P l o s H H')(b:K ⟨s,H'⟩):A9 P l n o K ⟨s,H⟩:=by
 obtain⟨a,op,type,pos,after,guard⟩:=o
 cases op<;>simp only[Bw]at hs<;>first|(cases hs;done)|skip
 cases a with
 |some d=>cases hs
 |none=>
  simp only[EX]at h
  simp only[A9]
  grind
theorem tD{o:Oper}{s:Nat→AV}{d:Nat}{u:AV}(g:d∉o.looksAt ops)(h:EX P l o (upd s d u) H H'):EX P l o s H H':=by
 have b:∀x∈o.op.operands,ev (upd s d u) x=ev s x:=fun x i=>by
  cases x with
  |tmp t=>
   have c:t≠d:=fun e=>g (by
    subst e
    exact HO _ (List.mem_filterMap.2 ⟨.tmp t,by simpa using i,rfl⟩))
   simp[ev,upd,c]
  |_=>rfl
 unfold EX at h⊢
 split at h
 ·rename_i t a x f
  rw[b a (by rw[f];simp[Op.operands]),b x (by rw[f];simp[Op.operands])]at h
  exact h
 grind
variable {fin:Bool} {X:St→Prop}
def D4(P:Program)(l n:Nat)(ops:Array Oper)(fin:Bool)(X:St→Prop)(i:Nat)(K:St→Prop)(σ:St):Prop:=
 match ops[i]? with
 |none=>K σ
 |some o=>(Cg o=true∧∃d v,o.dst=some d∧d<n∧YA P l σ.H ops o σ.s v∧K ⟨upd σ.s d v,σ.H⟩)∨(Bw o=true∧∃H',EX P l o σ.s σ.H H'∧K ⟨σ.s,H'⟩)∨(fin=true∧i+1=ops.size∧X σ)
def It(P:Program)(l n:Nat)(ops:Array Oper)(fin:Bool)(X:St→Prop)(Q:St→Prop):Nat→Array Bool→St→Prop
 |0,listed,σ=>Region.ready .any ops listed=[]∧Q σ
 |fuel+1,listed,σ=>(Region.ready .any ops listed=[]→Q σ)∧∀i∈Region.ready .any ops listed,D4 P l n ops fin X i (It P l n ops fin X Q fuel (listed.setIfInBounds i true)) σ
theorem rS{i:Nat}{K g:St→Prop}{σ:St}(h:∀s,K s→g s)(b:D4 P l n ops fin X i K σ):D4 P l n ops fin X i g σ:=by
 unfold D4 at*
 split
 ·rename_i e;rw[e]at b;exact h _ b
 ·rename_i o e
  rw[e]at b
  rcases b with⟨a,d,v,c,f,j,k⟩|⟨a,H',c,f⟩|a
  ·exact .inl ⟨a,d,v,c,f,j,h _ k⟩
  ·exact .inr (.inl ⟨a,H',c,h _ f⟩)
  ·exact .inr (.inr a)
theorem tp{i j:Nat}{c t:Oper}{d:Nat}{v:AV}(A:ops[j]?=some t)(a:c.dst=some d)(m:c.apart ops t=true)(p:Bw t=true→FE c=true)(r:fin=true→j+1≠ops.size){K:St→Prop}{s:Nat→AV}
  (hy:YA P l H ops c s v) (h:D4 P l n ops fin X j K ⟨upd s d v,H⟩):D4 P l n ops fin X j (fun g=>YA P l g.H ops c g.s v∧K ⟨upd g.s d v,g.H⟩) ⟨s,H⟩:=by
 obtain⟨w,x,y⟩:=Oper.apart_spec m
 unfold D4 at*
 simp only[A]at*
 rcases h with⟨b,e,u,he,o,f,k⟩|⟨b,H',f,k⟩|⟨b,z,_⟩
 ·refine .inl ⟨b,e,u,he,o,fM (w d a) f,ta (y e he) hy,?_⟩
  have q:d≠e:=fun e'=>x d a (e'▸he)
  rw[qQ (Ne.symm q)]
  exact k
 ·exact .inr (.inl ⟨b,H',tD (w d a) f,ld (p b) (uj f) hy,k⟩)
 ·exact absurd z (r b)
theorem p6{Q:St→Prop}{i:Nat}{o:Oper}{d:Nat}{v:AV}(hi:ops[i]?=some o)(hq:Cg o=true)(D:o.dst=some d)(L:d<n):
  ∀(fuel:Nat) (listed:Array Bool) (s:Nat→AV) (H:Hp),
   (∀j u,ops[j]?=some u→j≠i→listed.getD j true=false→(∀e∈u.after,Region.binds .any e=true→e.on≠i∧∀a,ops[e.on]?=some a→BF a i=false)→¬Waits ops j i→o.apart ops u=true∧(Bw u=true→FE o=true)∧(fin=true→j+1≠ops.size))→DC ops listed→
   (∀m a,ops[m]?=some a→BF a i=true→listed.getD m true=false)→i∈Region.ready .any ops listed→YA P l H ops o s v→
   It P l n ops fin X Q fuel (listed.setIfInBounds i true) ⟨upd s d v,H⟩→It P l n ops fin X Q (fuel+1) listed ⟨s,H⟩:=by
 have w:∀{K:St→Prop} {s:Nat→AV} {H:Hp},YA P l H ops o s v→K ⟨upd s d v,H⟩→D4 P l n ops fin X i K ⟨s,H⟩:=fun hy hK=>by
  unfold D4;simp only[hi];exact .inl ⟨hq,d,v,D,L,hy,hK⟩
 intro fuel
 induction fuel with
 |zero=>
  intro listed s H _ _ T t hy B
  refine⟨fun h=>(by rw[h]at t;cases t),fun j A=>?_⟩
  by_cases b:j=i
  ·subst b;exact w hy B
  ·have:=ready_mono A b
   rw[B.1]at this
   cases this
 |succ fuel ih=>
  intro listed s H f W T t hy B
  refine⟨fun h=>(by rw[h]at t;cases t),fun j A=>?_⟩
  by_cases b:j=i
  ·subst b;exact w hy B
  ·have c:=B.2 j (ready_mono A b)
   obtain⟨q,u,z,p⟩:=mem_ready.1 A
   have r:∀e∈u.after,Region.binds .any e=true→e.on≠i:=fun e he I heq=>by
    have c:=p e he I
    have C:=(mem_ready.1 t).1
    rw[heq]at c
    rcases Yt i listed.size with x|x
    ·simp[x]at C c;rw[C]at c;cases c
    ·simp[Y0 x]at c
   have y:∀e∈u.after,Region.binds .any e=true→e.on≠i∧∀a,ops[e.on]?=some a→BF a i=false:=fun e he I=>⟨r e he I,fun a S=>by
    cases J:BF a i with
    |false=>rfl
    |true=>
     have c:=p e he I
     have C:=T _ a S J
     rcases Yt e.on listed.size with x|x
     ·simp[x]at C c;rw[C]at c;cases c
     ·simp[Y0 x]at c⟩
   have M:=f j u z b q y (W.nowait A (mem_ready.1 t).1)
   have Z:=tp (i:=i) z D M.1 M.2.1 M.2.2 hy c
   have g:∀k ok,ops[k]?=some ok→k≠i→(listed.setIfInBounds j true).getD k true=false→
     (∀e∈ok.after,Region.binds .any e=true→e.on≠i∧∀a,ops[e.on]?=some a→BF a i=false)→¬Waits ops k i→o.apart ops ok=true∧(Bw ok=true→FE o=true)∧(fin=true→k+1≠ops.size):=fun k ok hk N G O R=>by
    refine f k ok hk N ?_ O R
    by_cases E:j=k
    ·subst E;exact q
    ·rw[getD_set_ne true E]at G;exact G
   have U:∀m a,ops[m]?=some a→BF a i=true→(listed.setIfInBounds j true).getD m true=false:=fun m a hm J=>by
    by_cases F:j=m
    ·subst F
     rw[z]at hm
     cases hm
     exact(U3 J r).elim
    ·rw[getD_set_ne true F];exact T m a hm J
   refine rS (fun Y V=>ih (listed.setIfInBounds j true) Y.s Y.H g (W.ready A) U (ready_mono t (Ne.symm b)) V.1 ?_) Z
   rw[XQ _ _ b]
   exact V.2
theorem U7{K K0:St→Prop}{m:Nat}(p:∀k (listed:Array Bool) (s:Nat→AV) (H:Hp),k+m=ops.size→(∀j,listed.getD j true=false→k≤j)→Region.lexFrom .any ops m k listed=true→K0 ⟨s,H⟩→It P l n ops fin X K m listed ⟨s,H⟩)(w:fin=true→∀i,i+1<ops.size→Waits ops (ops.size-1) i)(z:∀i j N u,i<j→ops[i]?=some N→ops[j]?=some u→(Bw N=true→BF u i=true)∧(Bw u=true→FE N=true∨K3 ops.toList u i=true)∧BF N j=false):
  ∀(rest:List Oper) (k:Nat) (listed:Array Bool) (s:Nat→AV) (H:Hp),rest.all (fun o=>Cg o||Bw o)=true→(∀j,listed.getD j true=false→k≤j)→(∀j,k≤j→j<ops.size→listed.getD j true=false)→
  k+rest.length+m=ops.size→DC ops listed→(∀j,j<rest.length→rest[j]?=ops[k+j]?)→Region.lexFrom .any ops (rest.length+m) k listed=true→C3 P l n (ops.toList.map (·.dst)) rest K0 ⟨s,H⟩→It P l n ops fin X K (rest.length+m) listed ⟨s,H⟩
 |[],k,listed,s,H,_,F,_,r,_,_,C,h=>by
  simp only[GK,YH,Ey]at C r⊢
  exact p k listed s H r F C h
 |o::rest,k,listed,s,H,Z,F,hk2,r,hD,hl,C,h=>by
  have M:ops[k]?=some o:=by simpa using(hl 0 (by simp)).symm
  rw[Ew,Nat.add_right_comm]at C⊢
  simp only[Region.lexFrom,Yb]at C
  obtain⟨⟨D,hf⟩,Q⟩:=C
  have D:k∈Region.ready .any ops listed:=by simpa using D
  simp only[GG,Yb,Yu]at Z
  have U:∀j,(listed.setIfInBounds k true).getD j true=false→k+1≤j:=fun j E=>by
   by_cases g:k=j
   ·subst g
    exfalso
    rcases Yt k listed.size with L|L
    ·simp[L]at E
    grind
   ·rw[getD_set_ne true g]at E
    grind
  have G:∀j,k+1≤j→j<ops.size→(listed.setIfInBounds k true).getD j true=false:=fun j h1 h2=>by
   rw[getD_set_ne true (by omega)]
   grind
  have hu:∀m om,ops[m]?=some om→BF om k=true→listed.getD m true=false:=fun m om hm ho=>by
   grind
  have W:∀j,j<rest.length→rest[j]?=ops[k+1+j]?:=fun j E=>by have:=hl (j+1) (by simp;omega);simpa[Yv,KY 1 j]using this
  have next:∀s' H',C3 P l n (ops.toList.map (·.dst)) rest K0 ⟨s',H'⟩→It P l n ops fin X K (rest.length+m) (listed.setIfInBounds k true) ⟨s',H'⟩:=fun s' H' L=>
   U7 p w z rest (k+1) _ s' H' (by simpa using Z.2) U G (by simp only[Ew]at r;omega) (hD.ready D) W Q L
  by_cases a:Bw o=true
  ·
   have y:o.guard=none:=by
    cases y:o.guard with
    |none=>rfl
    |some _=>obtain⟨O,op,type,pos,after,guard⟩:=o;simp only at y;subst y;cases op<;>cases O<;>simp[Bw]at a
   have J:A9 P l n o (C3 P l n (ops.toList.map (·.dst)) rest K0) ⟨s,H⟩:=by
    unfold C3 at h
    simp only[y]at h
    unfold Ej at h
    split at h
    ·rename_i R;simp[Bw,R]at a
    ·rename_i c R;simp[Bw,R]at a
    ·exact h
   obtain⟨H',hS,hK⟩:=vH a J
   refine⟨fun h=>(by rw[h]at D;cases D),fun j E=>?_⟩
   by_cases g:j=k
   ·subst g
    unfold D4
    grind
   ·exfalso
    obtain⟨f,u,q,hall⟩:=mem_ready.1 E
    have V:=F j f
    have he:=(z k j o u (by omega) M q).1 a
    refine U3 he fun e he x heq=>?_
    grind
  ·have B:Cg o=true:=by rcases Z.1 with h|h;exact h;exact absurd h a
   have hst:∃d v,o.dst=some d∧d<n∧YA P l H ops o s v∧C3 P l n (ops.toList.map (·.dst)) rest K0 ⟨upd s d v,H⟩:=by
    unfold C3 at h
    unfold YA
    cases y:o.guard with
    |none=>simp only[y]at h;exact ec B h
    |some gw=>
     obtain⟨i,b⟩:=gw
     simp only[y]at h⊢
     split at h
     ·rename_i t ht
      cases t with
      |true=>
       obtain⟨d,v,h1,h2,h3,h4⟩:=ec B (h.1 rfl)
       grind
      |false=>
       grind
     grind
   obtain⟨d,v,hd,S,hy,hK⟩:=hst
   refine p6 M B hd S (rest.length+m) listed s H (fun j u q g f I Y=>⟨Region.free_spec M hf j u q g f (fun e he x=>(I e he x).1),fun hsj=>?_,fun T A=>Y (by have:=w T k (by have:=F j f;omega);rwa [←A,Nat.add_sub_cancel]at this)⟩) hD hu D hy (next _ _ hK)
   have V:=F j f
   rcases(z k j o u (by omega) M q).2.1 hsj with h|h
   ·exact h
   ·exfalso
    unfold K3 at h
    rw[Yu]at h
    rcases h with h|h
    ·exact U3 h fun e he x=>(I e he x).1
    ·obtain⟨e,he,x⟩:=YG.1 h
     rw[Yb]at x
     obtain⟨Di,Al⟩:=x
     split at Al
     ·grind
     grind
theorem o5{i:Nat}{σ:St}{a:Act}{w:World}{K:St→Prop}{q:Act→World→Prop}{f:Exit→Act→World→Prop}(r:R l n B σ a w)
  (h:∀σ a w,R l n B σ a w→K σ→q a w) (L:fin=true→i+1=ops.size→X σ→wpOp P ops f i q a w) (A:D4 P l n ops fin X i K σ):wpOp P ops f i q a w:=by
 have z:=L
 obtain⟨s,H⟩:=σ
 unfold D4 at A
 unfold wpOp
 split
 ·grind
 ·rename_i o G
  simp only[G]at A
  rcases A with⟨C,d,v,F,g,hy,E⟩|⟨k,H',y,E⟩|⟨T,U,V⟩
  rotate_left 2
  ·have:=z T U V
   unfold wpOp at this
   simpa only[G]using this
  ·have go:qV P l H o (ev s) v→o.wp P a w q f:=fun Q=>by
    have:=v8 (B:=B) C F g Q a w r f
    refine Oper.wp_mono (fun I w' ⟨D,e,x⟩=>?_) this
    grind
   unfold YA at hy
   cases c:o.guard with
   |none=>
    simp only[c]at hy
    rw[Yj (by simp[Region.wanted,c])]
    grind
   |some J=>
    obtain⟨j,b⟩:=J
    simp only[c]at hy
    split at hy
    ·rename_i t O
     have p:(yielded ops a.tmps j==some b)=t:=by
      obtain⟨m,S,W,Y,M,y,N⟩:=r.un
      exact UI y O
     cases t with
     |true=>
      rw[Yj (by simp only[Region.wanted,c];exact p)]
      grind
     |false=>
      rw[Yi (by simp only[Region.wanted,c,p];decide)]
      have:=hy.2 rfl
      subst this
      rw[F]
      exact h _ _ _ (R.undef r g) E
    grind
  ·have c:o.guard=none:=by
    cases c:o.guard with
    |none=>rfl
    |some _=>obtain⟨u,op,type,pos,after,guard⟩:=o;simp only at c;subst c;cases op<;>cases u<;>simp[Bw]at k
   rw[Yj (by simp[Region.wanted,c])]
   refine .inl ?_
   have:=HW (B:=B) (wt (n:=n) (K:=fun D=>D=⟨s,H'⟩) k y rfl) a w r f
   refine Oper.wp_mono (fun I w' ⟨D,e,x⟩=>?_) this
   grind
theorem cP{b:Exit→Act→World→Prop}{listed:Array Bool}(h:Region.ready .any ops listed=[]){a:Act}{w:World}(c:b .normal a w):∀fuel,wpAny P .any ops b fuel listed a w
 |0=>⟨h,c⟩
 |_+1=>⟨fun _=>c,fun i hi=>by rw[h]at hi;cases hi⟩
theorem T4{Q:St→Prop}{m:Exit→Act→World→Prop}(q:∀σ a w,R l n B σ a w→Q σ→m .normal a w)(b:fin=true→∀i,i+1<ops.size→Waits ops (ops.size-1) i)(y:fin=true→∀σ a w,R l n B σ a w→X σ→∀o,ops[ops.size-1]?=some o→wpList P ops m [o] a w):
  ∀(fuel:Nat) (listed:Array Bool) (σ:St) (a:Act) (w:World),DC ops listed→R l n B σ a w→It P l n ops fin X Q fuel listed σ→wpAny P .any ops m fuel listed a w
 |0,_,_,_,_,_,d,h=>⟨h.1,q _ _ _ d h.2⟩
 |fuel+1,listed,σ,a,w,x,d,h=>⟨fun u=>q _ _ _ d (h.1 u),fun i hi=>o5 d (fun s' t w' r D=>T4 q b y fuel _ s' t w' (x.ready hi) r D) (fun C J H=>by
  obtain⟨u,o,A,z⟩:=mem_ready.1 hi
  have e:ops.size-1=i:=by omega
  have hw:=y C σ a w d H o (by rw[e];exact A)
  have g:Region.ready .any ops (listed.setIfInBounds i true)=[]:=by
   refine List.eq_nil_iff_forall_not_mem.2 fun j E=>?_
   obtain⟨k,I,s,_⟩:=mem_ready.1 E
   have F:j<ops.size:=(YP.1 s).1
   by_cases f:i=j
   ·subst f
    rcases Yt i listed.size with p|p
    ·simp[p]at k
    ·simp[Y0 p]at k
   ·rw[getD_set_ne true f]at k
    have v:=b C j (by omega)
    rw[e]at v
    exact x.nowait hi k v
  unfold wpOp
  simp only[A]
  unfold wpList at hw
  split
  ·rename_i c
   rw[Yj c]at hw
   exact hw.imp (Oper.wp_mono fun t w' G=>cP g G _) id
  ·rename_i c
   rw[Yi c]at hw
   exact cP g hw _) (h.2 i hi)⟩
theorem DC.none(n:Nat):DC ops (Array.replicate n false):=fun m b _ h=>by
 rw[Yp]at h
 rcases Yt m n with a|a
 ·simp[a]at h
 ·simp[Nat.not_lt.2 a]at h
theorem pr{id:Nat}{ops:List Oper}{σ:St}{Q:Exit→St→Prop}(hm:P.follows .mixedOrders=true)(c:Region.lexB .any ops.toArray=true)(C:ops.all (fun o=>Cg o||Bw o)=true)(hs:IB ops 0 ops=true)
  (h:C3 P l n (ops.map (·.dst)) ops (Q .normal) σ):Bi P l n B (.region id ops.toArray true) Q σ:=by
 intro a w x
 obtain⟨s,H⟩:=σ
 simp only[Region.lexB,Yb]at c
 have u:=U7 (P:=P) (l:=l) (n:=n) (ops:=ops.toArray) (K:=Q .normal) (K0:=Q .normal) (m:=0) (fin:=false) (X:=fun _=>False) (fun k listed s H _ _ c h=>⟨by simpa[Region.lexFrom]using c,h⟩) (fun e=>by cases e) (fun i j E F p hi z=>by
   have:=VC hs p (by simpa using hi) (by simpa using z)
   simpa using this) ops 0 (Array.replicate ops.toArray.size false) s H C (fun _ _=>DP _) (fun j _ h=>by simp at h;simp[h]) (by simp) (DC.none _) (by simp) (by simpa using c.2) (by simpa using h)
 have d:R l n B ⟨s,H⟩ a {w with drawn:=w.drawn+1 }:=by
  obtain⟨m,S,v,A,f,y,g⟩:=x.un
  obtain⟨r,t⟩:=v.drew (w':={w with drawn:=w.drawn+1 }) rfl rfl rfl rfl
  exact R.keep r A f y g t
 refine wp_region_any hm (T4 (Q:=Q .normal) (fin:=false) (X:=fun _=>False) (fun G D w' b q=>⟨_,q,b⟩) (fun e=>by cases e) (fun e=>by cases e) _ _ _ a _ (DC.none _) d (by simpa using u))
theorem rc{id:Nat}{L:List Oper}{o:Oper}{σ:St}{QQ:Exit→Act→World→Prop}{X:St→Prop}(hm:P.follows .mixedOrders=true)(c:Region.lexB .any (L++[o]).toArray=true)(J:L.all (fun o=>Cg o||Bw o)=true)(hs:IB (L++[o]) 0 (L++[o])=true)
  (M:∀i,i<L.length→Waits (L++[o]).toArray L.length i) (h:C3 P l n ((L++[o]).map (·.dst)) L X σ) (G:∀σ a w,R l n B σ a w→X σ→wpList P (L++[o]).toArray QQ [o] a w) {a:Act} {w:World} (g:R l n B σ a w):(Code.region id (L++[o]).toArray true).wp P QQ a w:=by
 obtain⟨s,H⟩:=σ
 simp only[Region.lexB,Yb]at c
 have b:true=true→∀i,i+1<(L++[o]).toArray.size→Waits (L++[o]).toArray ((L++[o]).toArray.size-1) i:=fun _ i hi=>by
  have:=M i (by simpa using hi)
  simpa using this
 have D:=U7 (P:=P) (l:=l) (n:=n) (ops:=(L++[o]).toArray) (K:=fun _=>False) (K0:=X) (m:=1) (fin:=true) (X:=X) (fun k listed s H V hl c h=>by
   simp only[Region.lexFrom,Yb]at c
   have C:k∈Region.ready .any (L++[o]).toArray listed:=by simpa using c.1.1
   refine⟨fun f=>(by rw[f]at C;cases C),fun i hi=>?_⟩
   obtain⟨f,T,d,_⟩:=mem_ready.1 hi
   have y:=hl i f
   have z:i<(L++[o]).toArray.size:=(YP.1 d).1
   unfold D4
   simp only[d]
   refine .inr (.inr ?_)
   exact And.intro (by first|rfl|trivial) (And.intro (by omega) h)) b (fun i j T W t hi u=>by
   have:=VC hs t (by simpa using hi) (by simpa using u)
   simpa using this) L 0 (Array.replicate (L++[o]).toArray.size false) s H J (fun _ _=>DP _) (fun j _ h=>by simp at h;simp[h]) (by simp) (DC.none _) (fun j u=>by simp[Yn u]) (by simpa using c.2) (by simpa using h)
 have p:R l n B ⟨s,H⟩ a {w with drawn:=w.drawn+1 }:=by
  obtain⟨m,S,E,I,q,F,r⟩:=g.un
  obtain⟨y,z⟩:=E.drew (w':={w with drawn:=w.drawn+1 }) rfl rfl rfl rfl
  exact R.keep y I q F r z
 refine wp_region_any hm (T4 (Q:=fun _=>False) (fin:=true) (X:=X) (fun Y U w' A x=>x.elim) b (fun _ σ a w g N O v=>?_) _ _ _ a _ (DC.none _) p (by simpa using D))
 have e:O=o:=by simpa using v.symm
 subst e
 exact G σ a w g N
end
end Go.Eng
namespace Go.Eng
set_option linter.all false
open Go Go.RowKit
section
variable {P:Program} {T:Nat→Option TI} {r:Ren} {H H':Hp} {g:Option Bool} {a:AT} {K:AV→AT→Prop}
def KR(r:Ren)(K:AV→AT→Prop)(y:AV):Prop:=∃v a,y=ren r v∧K v a
theorem KR.mk{v:AV}{a:AT}(h:K v a):KR r K (ren r v):=⟨v,a,rfl,h⟩
theorem KR.mk'{v y:AV}{a:AT}(h:K v a)(e:y=ren r v):KR r K y:=⟨v,a,e,h⟩
theorem gT{t:TypeId}{i:TI}(hi:TIok P t i)(h:(i.str||i.elm.isSome)=true):Hw P t=true:=by
 rw[Yu]at h
 unfold Hw
 rcases h with h|h
 ·have:=hi.str h
  unfold JY at this
  split at this
  ·rename_i a _;rw[a]
  ·cases this
 ·obtain⟨e,he⟩:=YX.1 h
  obtain⟨b,c⟩:=e
  have:=(DR (hi.elm _ he)).1
  rw[this]
theorem Ut{t:TypeId}{i:TI}(hi:TIok P t i)(y:CQ r H H')(p:∀b,g=some b→b=true){x:AV}(h:JA i H x g a K):Dz P H' t (ren r x) (KR r K):=by
 unfold JA at h
 cases x<;>simp only at h<;>try exact h.elim
 case iptr cs off=>
  simp only[ren,Dz,hi.agg,hi.siz]
  split at h
  ·rename_i he
   rw[he]
   split at h
   ·rename_i c d f
    obtain⟨m,n⟩:=UZ _ _ _ f
    have d:=Yd d
    rw[EZ]at n
    exact⟨by omega,by omega,.mk' h (by rw[m,ren,FY])⟩
   grind
  ·rename_i he
   rw[he]
   rw[BM]at h
   simp only
   split at h
   ·rename_i c o;simp only[o];exact .mk' h rfl
   grind
 case ptr k q off=>
  simp only[ren,Dz,hi.agg,hi.siz]
  split at h
  ·rename_i hl
   obtain⟨s,u,z,A,v⟩:=y.at hl
   refine⟨s,u,?_⟩
   rw[v]
   split at h
   ·split at h
    ·rename_i he
     rw[he]
     split at h
     ·rename_i c d f
      obtain⟨m,n⟩:=UZ _ _ _ f
      have d:=Yd d
      rw[EZ]at n
      exact⟨by omega,by rw[B0];omega,.mk' h (by rw[ren,DU,D7,m])⟩
     grind
    ·rename_i he
     rw[he]
     rw[BM]at h
     split at h
     ·rename_i c o;simp only[FT,o,YT];exact .mk' h rfl
     grind
   ·split at h
    ·rename_i he
     rw[he]
     split at h
     ·rename_i c B d f
      have d:=Yd d
      have f:=Ya f
      have j:C2 _ _ _:=A8 p h.1
      unfold C2 at j
      rw[f]at j
      have w:=congrArg List.length j
      rw[YS,EZ]at w
      exact⟨by omega,by rw[B0];omega,.mk' h.2 (by rw[ren,DU,D7,j])⟩
     grind
    ·rename_i he
     rw[he]
     split at h
     ·rename_i x
      have j:C2 _ _ _:=A8 p h.1
      unfold C2 at j
      have e:(H k).cells[off]?=some x:=by
       have:=congrArg (fun l=>l[0]?) j
       grind
      simp only[FT,e,YT]
      exact .mk' h.2 rfl
     grind
   grind
  ·grind
theorem Jm{t:TypeId}{i:TI}(hi:TIok P t i){f:Nat}{x:Nat×Nat×Bool}(h:A2 i.fld f=some x):fld P t f=some (x.1,x.2.1)∧JK P t f=some x:=by
 rw[BM]at h;exact hi.fld f x h
theorem ow{t:TypeId}{i:TI}(hi:TIok P t i)(j:CQ r H H'){f:Nat}{x:AV}(h:OO i H f x a K):DQ P H' t f (ren r x) (KR r K):=by
 unfold OO at h
 split at h
 ·rename_i o n b k
  have e:=(Jm hi k).1
  split at h
  ·rename_i c
   have c:=Yd c
   unfold DQ
   rw[e]
   split at h
   ·simp only[ren];exact⟨by omega,.mk' h rfl⟩
   ·split at h
    ·rename_i hl
     obtain⟨d,g,_⟩:=j.at hl
     simp only[ren];exact⟨by omega,d,g,.mk' h rfl⟩
    grind
   grind
  grind
 grind
theorem oT{t:TypeId}{i:TI}(hi:TIok P t i){f:Nat}{x:AV}(h:Pn i f x a K):DV P t f (ren r x) (KR r K):=by
 unfold Pn at h
 rw[qB]
 split at h
 ·rename_i o n cs b
  rw[(Jm hi b).2]
  split at h
  ·rename_i d
   have d:=Yd d
   simp only[ren,Ms]
   exact⟨by omega,.mk' h (by rw[ren,DU,D7])⟩
  grind
 ·rename_i o n cs b
  rw[(Jm hi b).2]
  rw[BM]at h
  split at h
  ·rename_i c e
   simp only[ren,Ms,FT,e,YT]
   exact .mk' h rfl
  grind
 grind
theorem ox{t:TypeId}{i:TI}(hi:TIok P t i)(w:CQ r H H')(m:∀b,g=some b→b=true){x j:AV}(h:OP i H x j g a K):Dq P H' t (ren r x) (ren r j) (KR r K):=by
 unfold OP at h
 split at h
 ·rename_i e sz k n he
  have he:=hi.elm _ he
  split at h
  ·rename_i y e' q
   split at h
   ·rename_i c d
    have c:=Ya c
    have d:=Yd d
    obtain⟨f,l⟩:G7 _ _ _:=A8 m h.1
    simp only[ren,Dq,he]
    refine⟨f,?_⟩
    rw[l]
    exact⟨c,by omega,.mk' h.2 rfl⟩
   grind
  ·rename_i k q off len o B
   split at h
   ·rename_i hl c d
    have c:=Ya c
    have d:=Yd d
    obtain⟨p,s,z,u,A⟩:=w.at hl
    obtain⟨f,l,v⟩:Kc _ _ _ _ _:=A8 m h.1
    simp only[ren,Dq,he]
    exact⟨f,l,p,s,by rw[u,c],by omega,.mk' h.2 (by rw[ren,v])⟩
   grind
  grind
 grind
theorem o2{t:TypeId}{i:TI}(hi:TIok P t i)(m:∀b,g=some b→b=true){x j:AV}(h:Pi i x j g a K):Eb P t (ren r x) (ren r j) (KR r K):=by
 unfold Pi at h
 split at h
 ·rename_i s k n b q
  split at h
  ·rename_i d
   have d:=Ya d
   obtain⟨e,c,f,l⟩:G1 _ _ _:=A8 m h.1
   simp only[ren,Eb]
   refine⟨by rw[hi.kin];exact d,e,?_⟩
   rw[f]
   exact .mk' h.2 (by rw[ren,l])
  grind
 grind
theorem pU{op:BinOp}{k:IntKind}{x y:Int}(c:∀b,g=some b→b=true)(h:N2 op k x y g a K):EP op k x y (KR r K):=by
 unfold N2 at h
 cases op<;>simp only at h<;>try exact h.elim
 all_goals simp only[EP]
 case eql=>exact .mk' h rfl
 case neq=>exact .mk' h rfl
 case lss=>exact .mk' h rfl
 case leq=>exact .mk' h rfl
 case gtr=>exact .mk' h rfl
 case geq=>exact .mk' h rfl
 case add|sub|mul=>
  split at h
  ·have e:BW _ _ _:=A8 c h.1
   unfold BW at e
   rw[e];exact .mk' h.2 rfl
  ·grind
 case and|or|xor=>
  split at h
  ·have e:Be _ _:=A8 c h.1
   unfold Be at e
   rw[e];exact .mk' h.2 rfl
  ·grind
 case quo=>
  split at h
  ·have e:BW _ _ _:=A8 c h.2.1
   unfold BW at e
   rw[e];exact⟨A8 c h.1,.mk' h.2.2 rfl⟩
  ·grind
 case rem=>
  split at h
  ·have e:Be _ _:=A8 c h.2.1
   unfold Be at e
   rw[e];exact⟨A8 c h.1,.mk' h.2.2 rfl⟩
  ·grind
 case shr=>
  split at h
  ·have e:Be _ _:=A8 c h.2.1
   unfold Be at e
   rw[e];exact⟨A8 c h.1,.mk' h.2.2 rfl⟩
  ·grind
 case shl=>
  split at h
  ·have e:BW _ _ _:=A8 c h.2.1
   unfold BW at e
   rw[e];exact⟨A8 c h.1,.mk' h.2.2 rfl⟩
  ·grind
theorem pu{op:BinOp}{x y:ByteArray}(c:∀b,g=some b→b=true)(h:NY op x y g a K):EM op x y (KR r K):=by
 unfold NY at h
 cases op<;>simp only at h<;>try exact h.elim
 all_goals simp only[EM]
 case add=>exact⟨A8 c h.1,.mk' h.2 rfl⟩
 all_goals exact .mk' h rfl
theorem cR{neg:Bool}{x:AV}(i:CQ r H H')(h:JO H neg x a K):C8 H' neg (ren r x) (KR r K):=by
 unfold JO at h
 split at h
 ·simp only[ren,C8];exact fun b=>.mk' (h b) rfl
 ·rename_i c
  cases c with
  |nil=>simp only[ren,C8];exact fun b=>.mk' (h b (fun e=>absurd rfl e)) rfl
  |cons e c=>simp only[ren,C8];exact .mk' (h neg (fun _=>rfl)) rfl
 ·rename_i k q off n
  split at h
  ·rename_i hl
   obtain⟨f,g,_⟩:=i.at hl
   simp only[ren,C8]
   exact⟨⟨f,g⟩,fun d=>.mk' (h neg (fun _=>rfl)) rfl,fun d b=>.mk' (h b (fun e=>absurd d e)) rfl⟩
  grind
 grind
theorem dk:∀(ks:List Nat) (xs ys:List AV) (b:Bool),Dy ks xs ys=some b→Dy ks (Af r xs) (Af r ys)=some b
 |[],[],[],b,h=>by simpa[Af]using h
 |k::ks,x::xs,y::ys,b,h=>by
  cases x<;>cases y<;>simp only[Dy]at h<;>try (cases h;done)
  rename_i x y
  simp only[Af,ren,Dy]
  split at h
  ·rename_i d e a c
   simp only[a,dk ks xs ys _ c]
   exact h
  ·cases h
 |[],[],_::_,b,h=>by simp[Dy]at h
 |[],_::_,_,b,h=>by simp[Dy]at h
 |_::_,[],_,b,h=>by simp[Dy]at h
 |_::_,x::_,[],b,h=>by cases x<;>simp[Dy]at h
theorem uv{H:Hp}{op:BinOp}{t:TypeId}{a:Bool}{x:AV}{K:AV→Prop}:B4 P H op t a x .e0 K=(a=true∧kin P t=4∧match op with|.eql=>C8 H false x K|.neq=>C8 H true x K|_=>False):=by
 unfold B4
 grind
theorem pK{t:TypeId}{i:TI}(hi:TIok P t i)(e:CQ r H H')(f:∀b,g=some b→b=true){op:BinOp}{j:Bool}{x y:AV}(h:Ny i H op j x y g a K):B4 P H' op t j (ren r x) (ren r y) (KR r K):=by
 unfold Ny at h
 split at h
 ·split at h
  ·rename_i c
   simp only[ren,B4]
   exact⟨vC c,pU f h⟩
  grind
 ·simp only[ren,B4];exact pu f h
 ·split at h
  ·rename_i c
   simp only[ren,B4]
   refine⟨by rw[hi.kin];exact Ya c,?_⟩
   split at h
   ·exact .mk' h rfl
   ·exact .mk' h rfl
   grind
  grind
 ·rename_i xs ys
  split at h
  ·rename_i ks d
   split at h
   ·rename_i b l
    simp only[ren,B4,Fy,hi.eqt _ d,dk _ _ _ _ l]
    split at h
    ·exact .mk' h rfl
    ·exact .mk' h rfl
    grind
   grind
  grind
 ·rw[show ren r .e0=.e0 from by simp[ren],uv]
  split at h
  ·rename_i m k
   refine⟨rfl,by rw[hi.kin];exact Ya k,?_⟩
   split at h
   ·exact cR e h
   ·exact cR e h
   grind
  grind
 grind
theorem pz{op:UnOp}{x:AV}(c:∀b,g=some b→b=true)(h:QS op x g a K):DJ op (ren r x) (KR r K):=by
 unfold QS at h
 split at h
 ·simp only[ren,DJ];exact .mk' h rfl
 ·split at h
  ·have e:BW _ _ _:=A8 c h.1
   unfold BW at e
   simp only[ren,DJ]
   rw[e];exact .mk' h.2 rfl
  grind
 ·split at h
  ·have e:Be _ _:=A8 c h.1
   unfold Be at e
   simp only[ren,DJ]
   rw[e];exact .mk' h.2 rfl
  grind
 grind
theorem pf{s d:TypeId}{i j:TI}(hi:TIok P s i)(k:TIok P d j){x:AV}(l:∀b,g=some b→b=true)(h:Qi i j x g a K):DW P s d (ren r x) (KR r K):=by
 unfold Qi at h
 split at h
 ·split at h
  ·rename_i q n p k' o m t c f
   have e:BW _ _ _:=A8 l h.1
   unfold BW at e
   simp only[ren,DW,hi.ik _ c,k.ik _ f]
   rw[e];exact .mk' h.2 rfl
  grind
 ·split at h
  ·rename_i c f
   simp only[ren,DW,FV (by rw[hi.kin];exact Ya c),FV (by rw[k.kin];exact Ya f)]
   exact .mk' h rfl
  grind
 grind
theorem Jo{d l:Nat}{o a:Option AV}(h:Cp d o l)(b:a=o.map (ren r)):Dh d a=some l:=by
 subst b
 unfold Cp at h
 split at h
 ·simp[Dh,h]
 ·subst h
  simp[Dh,ren]
 grind
theorem oS{t:TypeId}{i:TI}(hi:TIok P t i)(B:CQ r H H')(c:∀b,g=some b→b=true){x:AV}{lo q:Option AV}{v:Bool}(h:Ps i H x lo q v g a K):
  Dx P H' t (ren r x) (lo.map (ren r)) (q.map (ren r)) v (KR r K):=by
 unfold Ps at h
 split at h
 ·split at h
  ·split at h
   ·rename_i C
    obtain⟨m,n,o,p⟩:=h
    have f:=Jo (r:=r) (A8 c m) rfl
    have j:=Jo (r:=r) (A8 c n) rfl
    have d:DL _ _ _:=A8 c o
    simp only[ren,Dx,f,j]
    exact⟨by rw[hi.kin];exact Ya C,trivial,d.1,d.2,.mk' p rfl⟩
   grind
  ·split at h
   ·rename_i e sz w D he
    split at h
    ·rename_i l
     have l:=Yd l
     obtain⟨m,n,o,p,u⟩:=h
     have f:=Jo (r:=r) (A8 c m) rfl
     have j:=Jo (r:=r) (A8 c n) rfl
     have d:DL _ _ _:=A8 c o
     have k:Ky _ _ _ _ _:=A8 c p
     simp only[ren,Dx,f,j,hi.elm _ he]
     exact⟨trivial,by omega,k.1,d.1,d.2,.mk' u (by rw[ren,k.2])⟩
    grind
   grind
  ·split at h
   ·rename_i e sz I G D he hl
    split at h
    ·rename_i l s
     have l:=Yd l
     obtain⟨y,z,E,A,F⟩:=B.at hl
     obtain⟨m,n,o,p,u⟩:=h
     have f:=Jo (r:=r) (A8 c m) rfl
     have j:=Jo (r:=r) (A8 c n) rfl
     have d:DL _ _ _:=A8 c o
     have k:Rg _ _ _ _ _:=A8 c p
     simp only[ren,Dx,f,j,hi.elm _ he]
     exact⟨trivial,y,z,by omega,by rw[A];exact Ya s,d.1,d.2,.mk' u (by rw[ren,k.1,k.2])⟩
    grind
   grind
  grind
 grind
theorem qa{t:TypeId}{i:TI}(hi:TIok P t i)(k:CQ r H H')(d:∀b,g=some b→b=true){x:AV}(h:Ns i H x g a K):C5 P H' t (ren r x) (KR r K):=by
 unfold Ns at h
 split at h
 ·split at h
  ·rename_i c
   have e:Be _ _:=A8 d h.1
   unfold Be at e
   simp only[ren,C5,hi.kin]
   exact⟨Ya c,.mk' h.2 (by rw[ren,e])⟩
  grind
 ·split at h
  ·rename_i c
   have e:Be _ _:=A8 d h.1
   unfold Be at e
   simp only[ren,C5,hi.kin]
   exact⟨Ya c,.mk' h.2 (by rw[ren,e])⟩
  grind
 ·split at h
  ·rename_i c
   have e:Be _ _:=A8 d h.1
   unfold Be at e
   simp only[ren,C5,hi.kin]
   exact⟨Ya c,.mk' h.2 (by rw[ren,e])⟩
  grind
 ·split at h
  ·rename_i c hl
   have e:Be _ _:=A8 d h.1
   unfold Be at e
   obtain⟨f,j,_⟩:=k.at hl
   simp only[ren,C5,hi.kin]
   exact⟨Ya c,f,j,.mk' h.2 (by rw[ren,e])⟩
  grind
 grind
theorem pN(a:CQ r H H'){x:AV}{y:Bool×List (List D)}(h:Vy H x=some y):Jt H' (ren r x)=some y:=by
 unfold Vy at h
 split at h
 ·simp only[ren,Jt];exact h
 ·split at h
  ·rename_i k g _ _ q b hl he
   obtain⟨c,d,e,_,_⟩:=a.at hl
   simp only[ren,Jt]
   grind
  ·cases h
 ·cases h
theorem fB(q:Bool)(ds:List D):ren r (Kn q ds)=Kn q ds:=by
 unfold Kn
 split<;>simp[ren,FY]
theorem uy(a q:Bool)(ds:List D)(ok:Bool):ren r (Km a q ds ok)=Km a q ds ok:=by
 unfold Km
 cases a
 ·exact fB q ds
 ·simp only[ren,Af,fB]
theorem ph{t:TypeId}{i:TI}(hi:TIok P t i)(k:CQ r H H')(l:∀b,g=some b→b=true){x y:AV}{c:Bool}(h:Qb i H x y c g a K):EL P H' t (ren r x) (ren r y) c (KR r K):=by
 unfold Qb at h
 split at h
 ·rename_i q z p o s ok vs n f j
  split at h
  ·rename_i m
   obtain⟨d,e⟩:LS _ _ _ _ _:=A8 l h.1
   simp only[EL,hi.mp _ f,pN k j,ren]
   exact⟨vO m,.mk' h.2 (by rw[d,e,uy])⟩
  grind
 grind
theorem Ld{x:AV}{vs:List AV}(h:Cf x=some vs)(a:∀f xs ys,x≠.fn (.yield f) xs ys):Cf (ren r x)=some (Af r vs):=by
 cases x<;>simp only[Cf,Yf]at h<;>try (cases h;done)
 case fn f xs ys=>
  subst h
  cases f with
  |yield i=>exact absurd rfl (a i xs ys)
  |_=>simp[ren,Af,Cf]
 all_goals(subst h;simp[ren,Af,Cf])
theorem LD{x:AV}(h:Hd x=true):∀f xs ys,x≠.fn (.yield f) xs ys:=by
 rintro f xs ys rfl;cases h
theorem we{t:TypeId}{i:TI}(hi:TIok P t i){f o n:Nat}(h:W7 i f=some (o,n)):fld P t f=some (o,n):=by
 unfold W7 at h
 split at h
 ·rename_i d c b a
  simp only[Yf,E1]at h
  obtain⟨rfl,rfl⟩:=h
  exact(Jm hi a).1
 ·cases h
theorem cN{t:TypeId}{i:TI}(hi:TIok P t i):∀(ps:List (Nat×AV)) (z cs:List AV),(∀p∈ps,Hd p.2=true)→LV i z ps=some cs→BX (fld P t) (Af r z) (ps.map fun p=>(p.1,ren r p.2))=some (Af r cs)
 |[],z,cs,_,h=>by
  simp only[LV,Yf]at h
  subst h
  simp[BX]
 |(f,v)::ps,z,cs,e,h=>by
  simp only[LV]at h
  split at h
  ·rename_i off size vs a g
   split at h
   ·rename_i c d
    have c:=Ya c
    have d:=Yd d
    have b:=Ld (r:=r) g (LD (e (f,v) (YJ ..)))
    simp only[Y1,BX,we hi a,b,B0]
    rw[Yi (by omega)]
    have:=cN hi ps _ cs (fun p a=>e p (YC _ a)) h
    rw[←this]
    simp only[Fa,D7,DU]
   ·cases h
  ·cases h
theorem o1{t:TypeId}{i:TI}(hi:TIok P t i){parts:List (Nat×AV)}(e:∀p∈parts,Hd p.2=true)(f:∀z,i.zer=some z→Af r z=z)(h:PP i parts a K):
  D9 P t (parts.map fun p=>(p.1,ren r p.2)) (KR r K):=by
 unfold PP at h
 split at h
 ·rename_i z c b
  split at h
  ·rename_i cs d
   have:=cN (r:=r) hi _ _ _ e d
   unfold D9
   rw[hi.zer _ b]
   rw[f z b]at this
   simp only[this]
   exact⟨hi.str c,.mk' h rfl⟩
  grind
 grind
theorem sj{x:AV}(h:x.flat=true):ren r x=x:=by cases x<;>first|(simp[ren];done)|cases h
theorem HV{z:List AV}(h:z.all AV.flat=true):Af r z=z:=by
 induction z with
 |nil=>simp[Af]
 |cons x z a=>
  simp only[GG,Yb]at h
  rw[Af,sj h.1,a h.2]
theorem cH{c x y:Operand}{ρ d:Operand→AV}{t:Bool}(e:ρ c=.d (.bool t))(b:d c=ren r (ρ c))(f:t=true→d x=ren r (ρ x))(hy:t=false→d y=ren r (ρ y))(h:tV T H (.pick c x y) ρ g a K):
  AP P H' (.pick c x y) d (KR r K):=by
 simp only[tV,e]at h
 rw[e]at b
 simp only[ren]at b
 simp only[AP,b]
 rw[qT]at h
 cases t
 ·exact .mk' h (by simp[hy rfl])
 ·exact .mk' h (by simp[f rfl])
theorem Vb{ρ a:Operand→AV}{xs:List Operand}(h:∀x∈xs,a x=ren r (ρ x)):xs.map a=Af r (xs.map ρ):=by
 rw[D8,GH]
 exact Y7 h
theorem dJ{ρ a:Operand→AV}{o:Option Operand}(h:∀x,o=some x→a x=ren r (ρ x)):o.map a=(o.map ρ).map (ren r):=by
 cases o with
 |none=>rfl
 |some x=>simp[h x rfl]
theorem dh{r:Ren}{b:Bool}{x y:AV}{a:AT}{K:AV→AT→Prop}(h:Dl b x y (fun v=>K v a)):Dl b (ren r x) (ren r y) (KR r K):=by
 unfold Dl at h
 split at h
 ·simp only[ren,Dl];exact .mk' h rfl
 grind
theorem rp(w:AS P T)(D:CQ r H H')(B:∀b,g=some b→b=true){op:Op}{ρ A:Operand→AV}(Z:∀x∈op.operands,A x=ren r (ρ x))(h:tV T H op ρ g a K):AP P H' op A (KR r K):=by
 have get:∀{x:Operand},x∈op.operands→A x=ren r (ρ x):=fun l=>Z _ l
 cases op<;>simp only[tV]at h<;>try exact h.elim
 case move x=>exact .mk' h (get (by simp[Op.operands]))
 case assign x=>exact .mk' h (get (by simp[Op.operands]))
 case pick c x y=>
  split at h
  ·rename_i t m
   exact cH (a:=a) (g:=g) (T:=T) (H:=H) m (get (by simp[Op.operands])) (fun _=>get (by simp[Op.operands])) (fun _=>get (by simp[Op.operands])) (by simp only[tV,m];exact h)
  ·grind
 case load t x=>
  split at h
  ·rename_i i hi;simp only[AP];rw[get (x:=x) (by simp[Op.operands])];exact Ut (w _ _ hi) D B h
  ·grind
 case fieldAddr t x f=>
  split at h
  ·rename_i i hi;simp only[AP];rw[get (x:=x) (by simp[Op.operands])];exact ow (w _ _ hi) D h
  ·grind
 case field t x f=>
  split at h
  ·rename_i i hi;simp only[AP];rw[get (x:=x) (by simp[Op.operands])];exact oT (w _ _ hi) h
  ·grind
 case indexAddr t x j=>
  split at h
  ·rename_i i hi;simp only[AP];rw[get (x:=x) (by simp[Op.operands]),get (x:=j) (by simp[Op.operands])];exact ox (w _ _ hi) D B h
  ·grind
 case index t x j=>
  split at h
  ·rename_i i hi;simp only[AP];rw[get (x:=x) (by simp[Op.operands]),get (x:=j) (by simp[Op.operands])];exact o2 (w _ _ hi) B h
  ·grind
 case makeInterface t x=>
  split at h
  case h_2=>exact h.elim
  rename_i i hi
  have F:(i.str||i.elm.isSome)=true→Hw P t=true:=gT (w _ _ hi)
  simp only[AP]
  rw[get (x:=x) (by simp[Op.operands])]
  split at h
  ·rename_i xs E l
   rw[l]
   simp only[ren]
   split at h
   case h_2=>exact h.elim
   rename_i ds O
   have e:=Pd O
   subst e
   rw[FY,O]
   exact⟨F E,.mk' h rfl⟩
  ·rename_i y E l
   rw[l]
   simp only[ren]
   exact⟨F E,.mk' h rfl⟩
  ·exact h.elim
 case typeAssert x u t ok=>
  split at h
  case h_2=>exact h.elim
  rename_i i hi
  have F:(i.str||i.elm.isSome)=true→Hw P t=true:=gT (w _ _ hi)
  simp only[AP]
  rw[get (x:=x) (by simp[Op.operands])]
  split at h
  case h_2=>exact h.elim
  rename_i u ds q E l
  rw[l]
  simp only[ren]
  split at h
  case h_2=>exact h.elim
  rename_i v X G
  rw[G]
  have I:ren r v=v:=by
   cases q with
   |true=>cases G;simp only[ren,FY]
   |false=>
    match ds,G with
    |[d],G=>cases G;simp only[ren]
  refine⟨F E,Ya X,.mk' h ?_⟩
  cases ok with
  |true=>simp only[cond,ren,Af,I]
  |false=>exact I.symm
 case extract x j=>
  simp only[AP]
  rw[get (x:=x) (by simp[Op.operands])]
  split at h
  ·rename_i vs l
   rw[l]
   simp only[ren,FT]
   rw[BM]at h
   split at h
   ·rename_i y hy;rw[hy];exact .mk' h rfl
   grind
  ·grind
 case binOp o t x y u=>
  split at h
  ·rename_i i hi;simp only[AP];rw[get (x:=x) (by simp[Op.operands]),get (x:=y) (by simp[Op.operands])];exact pK (w _ _ hi) D B h
  ·grind
 case unOp o t x=>simp only[AP];rw[get (x:=x) (by simp[Op.operands])];exact pz B h
 case nilCheck x=>
  split at h
  ·rename_i k q off l
   split at h
   ·rename_i hl
    simp only[AP]
    rw[get (x:=x) (by simp[Op.operands]),l]
    obtain⟨g1,Q,_,_,_⟩:=D.at hl
    simp only[ren,G4]
    exact⟨g1.symm▸rfl,Q,.mk' h (by simp[ren])⟩
   grind
  ·rename_i cs off l
   simp only[AP]
   rw[get (x:=x) (by simp[Op.operands]),l]
   simp only[ren,G4]
   exact .mk' h (by simp[ren])
  ·grind
 case convert s d x=>
  split at h
  ·rename_i i j hi V;simp only[AP];rw[get (x:=x) (by simp[Op.operands])];exact pf (w _ _ hi) (w _ _ V) B h
  ·grind
 case makeFunc fn first C=>
  have n:first.toList.map A=Af r (first.toList.map ρ):=Vb fun x l=>get (by simp only[Op.operands,KH];exact .inl (by simpa using l))
  have J:C.toList.map A=Af r (C.toList.map ρ):=Vb fun x l=>get (by simp only[Op.operands,KH];exact .inr (by simpa using l))
  simp only[AP]
  rw[n,J]
  split at h
  ·grind
  ·rename_i M
   refine .mk' h ?_
   cases fn<;>first|exact absurd rfl (M _)|simp[ren]
 case slice t x lo hi mx=>
  split at h
  ·rename_i i L
   simp only[AP]
   rw[get (x:=x) (by simp[Op.operands]),dJ (o:=lo) (fun y hy=>get (by subst hy;simp[Op.operands])),dJ (o:=hi) (fun y hy=>get (by subst hy;simp[Op.operands]))]
   exact oS (w _ _ L) D B h
  ·grind
 case build t parts=>
  split at h
  ·rename_i i hi F
   simp only[AP]
   have e:(parts.toList.map fun p=>(p.1,A p.2))=(parts.toList.map fun p=>(p.1,ρ p.2)).map fun p=>(p.1,ren r p.2):=by
    rw[GH]
    refine Y7 fun p N=>?_
    simp only[Function.comp]
    rw[get (x:=p.2) (by simp only[Op.operands,KI,YQ];exact⟨p,N,rfl⟩)]
   rw[e]
   refine o1 (w _ _ hi) (fun p N=>?_) (fun z Y=>HV ((w _ _ hi).flt z Y)) h
   obtain⟨q,hq,rfl⟩:=YQ.1 N
   grind
  ·grind
 case lookup t x y ck=>
  split at h
  ·rename_i i hi;simp only[AP];rw[get (x:=x) (by simp[Op.operands]),get (x:=y) (by simp[Op.operands])];exact ph (w _ _ hi) D B h
  ·grind
 case call c=>
  split at h
  ·rename_i x t m l W
   split at h
   ·rename_i i hi
    have n:c.args=#[x]:=Cq (by simpa using l)
    have J:c.argTypes=#[t]:=Cq (by simpa using W)
    simp only[AP,m,n,J]
    show 1=1∧C5 P H' t (A x) (KR r K)
    rw[get (x:=x) (by simp[Op.operands,Call.operands,m,n])]
    exact⟨rfl,qa (w _ _ hi) D B h⟩
   grind
  ·rename_i x y m l
   have n:c.args=#[x,y]:=Cq (by simpa using l)
   simp only[AP,m,n]
   show Dl false (A x) (A y) (KR r K)
   rw[get (x:=x) (by simp[Op.operands,Call.operands,m,n]),get (x:=y) (by simp[Op.operands,Call.operands,m,n])]
   exact dh h
  ·rename_i x y m l
   have n:c.args=#[x,y]:=Cq (by simpa using l)
   simp only[AP,m,n]
   show Dl true (A x) (A y) (KR r K)
   rw[get (x:=x) (by simp[Op.operands,Call.operands,m,n]),get (x:=y) (by simp[Op.operands,Call.operands,m,n])]
   exact dh h
  ·rename_i x y z m l
   have n:c.args=#[x,y,z]:=Cq (by simpa using l)
   simp only[AP,m,n]
   show Fq true (A x) (A y) (A z) (KR r K)
   rw[get (x:=x) (by simp[Op.operands,Call.operands,m,n]),get (x:=y) (by simp[Op.operands,Call.operands,m,n]),get (x:=z) (by simp[Op.operands,Call.operands,m,n])]
   unfold Fq at h
   split at h
   ·rename_i R S U
    rw[R,S,U]
    simp only[ren,Fq];exact .mk' h rfl
   grind
  ·grind
end
abbrev B9:=List (Nat×Bool)
abbrev Bc:=List (Nat×B9)
def lk:Bc→Nat→B9
 |[],_=>[]
 |(i,c)::r,j=>match Nat.beq i j with|true=>c|false=>lk r j
def MC(t:Bool):Bool→Bool
 |true=>t
 |false=>!t
theorem UG{t b:Bool}:MC t b=true↔t=b:=by cases t<;>cases b<;>simp[MC]
def Ig:B9→B9→Bool
 |[],[]=>true
 |(i,a)::r,(j,b)::q=>Nat.beq i j&&MC a b&&Ig r q
 |_,_=>false
theorem Vo:∀{a b:B9},Ig a b=true→a=b
 |[],[],_=>rfl
 |(i,a)::r,(j,b)::q,h=>by
  simp only[Ig,Yb]at h
  rw[Ya h.1.1,UG.1 h.1.2,Vo h.2]
 |[],_::_,h=>by simp[Ig]at h
 |_::_,[],h=>by simp[Ig]at h
def N0(a:B9):B9→Bool
 |[]=>Ig a []
 |q::b=>Ig a (q::b)||N0 a b
theorem ew{a:B9}:∀{b:B9},N0 a b=true→∀q∈a,q∈b
 |[],h,q,c=>by rw[Vo h]at c;exact c
 |p::b,h,q,c=>by
  simp only[N0,Yu]at h
  rcases h with h|h
  ·rw[Vo h]at c;exact c
  ·exact YC _ (ew h q c)
def Cd(s:Nat→AV)(c:B9):Prop:=∀q∈c,s q.1=.d (.bool q.2)
def EF(s:Nat→AV):B9→Option Bool
 |[]=>some true
 |[(d,b)]=>match s d with|.d (.bool t)=>some (MC t b)|_=>none
 |(d,b)::r=>match s d,EF s r with|.d (.bool t),some c=>some (c&&MC t b)|_,_=>none
theorem GO{s:Nat→AV}:∀{c:B9} {g:Bool},EF s c=some g→(g=true↔Cd s c)
 |[],g,h=>by simp only[EF,Yf]at h;subst h;simp[Cd]
 |[(d,b)],g,h=>by
  simp only[EF]at h
  split at h
  ·rename_i t f
   simp only[Yf]at h
   subst h
   rw[UG]
   simp[Cd,f]
  ·cases h
 |(d,b)::q::r,g,h=>by
  simp only[EF]at h
  split at h
  ·rename_i t c f i
   simp only[Yf]at h
   subst h
   have j:=GO i
   rw[Yb,j,UG]
   constructor
   ·rintro⟨e,rfl⟩ p a
    rcases YF.1 a with rfl|a
    ·exact f
    ·exact e p a
   ·intro e
    refine⟨fun p a=>e p (YC _ a),?_⟩
    have:=e (d,b) (YJ ..)
    grind
  ·cases h
def H1(e:Nat)(c:B9):Bool:=c.all fun q=>!Nat.beq q.1 e
def fresh(e:Nat)(env:Bc):Bool:=env.all fun p=>H1 e p.2
theorem dU{s:Nat→AV}{e:Nat}{v:AV}{c:B9}(h:H1 e c=true):Cd (upd s e v) c↔Cd s c:=by
 have key:∀q∈c,upd s e v q.1=s q.1:=fun q a=>by
  have:=Ym.1 h q a
  unfold upd
  rw[Yi]
  intro he
  subst he
  simp at this
 constructor
 ·exact fun h q a=>(key q a)▸h q a
 ·exact fun h q a=>(key q a).trans (h q a)
theorem dW{e:Nat}:∀{env:Bc},fresh e env=true→∀j,H1 e (lk env j)=true
 |[],_,j=>rfl
 |(i,c)::r,h,j=>by
  simp only[fresh,GG,Yb]at h
  simp only[lk]
  split
  ·exact h.1
  ·exact dW h.2 j
theorem Vs{env:Bc}{e:Nat}{c:B9}(j:Nat):lk ((e,c)::env) j=if j=e then c else lk env j:=by
 simp only[lk]
 by_cases h:j=e
 ·subst h;simp
 ·rw[Yi h]
  split
  ·rename_i a;exact absurd (Ya a).symm h
  ·rfl
def Gt(env:Bc)(c:B9):Operand→Bool
 |.tmp t=>N0 (lk env t) c
 |_=>true
def BP(env:Bc)(c:B9):Op→Bool
 |.pick (.tmp d) x y=>Gt env c (.tmp d)&&Gt env ((d,true)::c) x&&Gt env ((d,false)::c) y
 |op=>op.operands.toList.all (Gt env c)
structure RenOk (r:Ren) (l outs:Nat):Prop where
 own:∀d,r.κ (1,d)=(l+1,d)
 out:∀i,i<outs→(r.κ (0,i)).1≤l
 inj:∀i j,i<outs→j<outs→r.κ (0,i)=r.κ (0,j)→i=j
 no:∀k,r.no k→∃i,i<outs∧r.κ (0,i)=k
structure RG (r:Ren) (l outs:Nat) (env:Bc) (τ σ:St):Prop where
 s:∀j,(Cd τ.s (lk env j)→σ.s j=ren r (τ.s j))∧(¬Cd τ.s (lk env j)→σ.s j=.tup [])
 h:CQ r τ.H σ.H
 g:∀d,(σ.H (l+1,d)).g=r.γ (1,d)+(τ.H (1,d)).g
 go:∀i,i<outs→(σ.H (r.κ (0,i))).g=r.γ (0,i)+(τ.H (0,i)).g
 k:∀k,(τ.H k).live=true→k.1=1∨(k.1=0∧k.2<outs)
 o:∀k:Aa,k.1≤l→¬r.no k→σ.H k=r.H0 k
def Fh(P:Program)(l:Nat)(r:Ren)(f:FuncId)(xs:List AV)(c:List (Aa×Blk))(x:AV):Prop:=
 ∀a,(∀p∈c,p.2.live=true→a (r.κ p.1)=Ax r p.1 p.2)→(∀k:Aa,k.1≤l→¬r.no k→a k=r.H0 k)→ZbW P f (l+1) (Af r xs) a (fun y b=>y=ren r x∧b=a)
def Jx(P:Program)(l:Nat)(r:Ren)(i:Nat)(xs:List AV)(d:List (Aa×Blk))(x:AV):Prop:=
 ∃f first a,r.θ i=.fn (.func f) first a∧∀b,(∀p∈d,p.2.live=true→b (r.κ p.1)=Ax r p.1 p.2)→(∀k:Aa,k.1≤l→¬r.no k→b k=r.H0 k)→ZbW P f (l+1) (first++Af r xs++a) b (fun y c=>y=ren r x∧c=b)
def Qo(P:Program)(l:Nat)(r:Ren)(H:Hp)(f:AV)(xs:List AV)(g:Option Bool)(a:AT)(K:AV→AT→Prop):Prop:=
 match f,a with
 |.fn (.func i) first b,.call x ks a=>AZ g (Fh P l r i (first++xs++b) (ks.map fun k=>(k,H k)) x)∧K x a
 |.fn (.yield i) _ _,.call x ks a=>AZ g (Jx P l r i xs (ks.map fun k=>(k,H k)) x)∧K x a
 |_,_=>False
def QC(T:Nat→Option TI)(τ:St)(t:TypeId)(len:Nat)(parts:List (Nat×Operand))(a:AT)(K:AV→AT→Prop):Prop:=
 match T t with
 |some i=>(match i.elm with
  |some (e,sz)=>(match Nat.ble 1 sz,len with
   |true,0=>(match parts with|[]=>K .e0 a|_=>False)
   |true,len+1=>(match T e,Nat.ble ((len+1)*sz) 16777216 with
    |some j,true=>(match j.zer with
     |some z=>(match Nat.beq z.length sz,Em sz 0 (parts.map fun p=>(p.1,ev τ.s p.2))with
      |true,some es=>(match Nat.beq es.length (len+1)with|true=>K (.d (.list es)) a|false=>False)
      |_,_=>False)
     |none=>False)
    |_,_=>False)
   |_,_=>False)
  |none=>False)
 |none=>False
def pV(P:Program)(T:Nat→Option TI)(l:Nat)(r:Ren)(τ:St)(op:Op)(g:Option Bool)(a:AT)(K:AV→AT→Prop):Prop:=
 match op with
 |.call c=>match c.callee with
  |.value f=>Qo P l r τ.H (ev τ.s f) (c.args.toList.map (ev τ.s)) g a K
  |_=>tV T τ.H op (ev τ.s) g a K
 |.buildSlice t len parts=>QC T τ t len parts.toList a K
 |op=>tV T τ.H op (ev τ.s) g a K
def DY(n d:Nat)(K:St→AT→Prop)(τ:St)(v:AV)(a:AT):Prop:=
 match Nat.ble (d+1) n with
 |true=>K ⟨upd τ.s d v,τ.H⟩ a
 |false=>False
section
variable {P:Program} {T:Nat→Option TI} {r:Ren} {l n outs:Nat} {env:Bc} {τ σ:St} {g:Option Bool} {a:AT} {c:B9}
theorem vj(v:Value):ren r (cv v)=cv v:=by unfold cv;split<;>simp[ren]
theorem HZ(h:RG r l outs env τ σ)(hs:Cd τ.s c){x:Operand}(b:Gt env c x=true):ev σ.s x=ren r (ev τ.s x):=by
 cases x with
 |tmp t=>exact(h.s t).1 fun q a=>hs q (ew b q a)
 |const v=>exact(vj v).symm
 |global g=>simp[ev,ren]
 |func f=>simp[ev,ren,Af]
theorem ED(h:RG r l outs env τ σ)(hs:Cd τ.s c){op:Op}(a:op.operands.toList.all (Gt env c)=true):∀x∈op.operands,ev σ.s x=ren r (ev τ.s x):=
 fun x hm=>HZ h hs (Ym.1 a x (by simpa using hm))
theorem fX(u:AS P T)(h:RG r l outs env τ σ)(hs:Cd τ.s c)(v:∀b,g=some b→b=true){op:Op}(i:BP env c op=true){K:AV→AT→Prop}(j:tV T τ.H op (ev τ.s) g a K):
  AP P σ.H op (ev σ.s) (KR r K):=by
 unfold BP at i
 split at i
 ·rename_i d x y
  simp only[Yb]at i
  obtain⟨⟨o,p⟩,s⟩:=i
  have f:=j
  simp only[tV]at f
  split at f
  ·rename_i t m
   have n:=HZ h hs o
   refine cH (T:=T) (H:=τ.H) (g:=g) (a:=a) m n (fun e=>HZ h (c:=(d,true)::c) ?_ p) (fun e=>HZ h (c:=(d,false)::c) ?_ s) j
   all_goals
    subst e
    intro q k
    rcases YF.1 k with rfl|k
    ·exact m
    ·exact hs q k
  grind
 ·exact rp u h.h v (ED h hs i) j
theorem Uz(h:RG r l outs env τ σ)(hs:Cd τ.s c)(t:∀b,g=some b→b=true){cl:Call}{f:Operand}(q:cl.callee=.value f)(m:BP env c (.call cl)=true){K:AV→AT→Prop}
  (e:Qo P l r τ.H (ev τ.s f) (cl.args.toList.map (ev τ.s)) g a K):
  ∃i first d x j,ev σ.s f=.fn (.func i) first d∧ZbW P i (l+1) (first++cl.args.toList.map (ev σ.s)++d) σ.H (fun y u=>y=ren r x∧u=σ.H)∧K x j:=by
 have m:(Op.call cl).operands.toList.all (Gt env c)=true:=m
 have s:=ED h hs m f (by simp[Op.operands,Call.operands,q])
 have n:cl.args.toList.map (ev σ.s)=Af r (cl.args.toList.map (ev τ.s)):=Vb fun x hm=>ED h hs m x (by simp only[Op.operands,Call.operands,q,KH];exact .inr (by simpa using hm))
 have o:∀ks:List Aa,∀p∈ks.map fun k=>(k,τ.H k),p.2.live=true→σ.H (r.κ p.1)=Ax r p.1 p.2:=fun ks p e hl=>by
  obtain⟨k,B,rfl⟩:=YQ.1 e
  exact h.h k hl
 unfold Qo at e
 split at e
 ·rename_i i first d x ks j he
  have w:Fh _ _ _ _ _ _ _:=A8 t e.1
  refine⟨i,Af r first,Af r d,x,j,by rw[s,he];simp[ren],?_,e.2⟩
  rw[n,←Fa,←Fa]
  exact w σ.H (o ks) h.o
 ·rename_i i xs ys x ks j he
  obtain⟨v,first,d,z,A⟩:Jx _ _ _ _ _ _ _:=A8 t e.1
  refine⟨v,first,d,x,j,by rw[s,he];simp[ren,z],?_,e.2⟩
  rw[n]
  exact A σ.H (o ks) h.o
 grind
theorem RG.put(h:RG r l outs env τ σ){e:Nat}{ch:B9}(b:fresh e env=true)(c:H1 e ch=true){v:AV}{y:AV}(hy:Cd τ.s ch→y=ren r v)(d:¬Cd τ.s ch→y=.tup []):
  RG r l outs ((e,ch)::env) ⟨upd τ.s e v,τ.H⟩ ⟨upd σ.s e y,σ.H⟩:=by
 refine⟨fun j=>?_,h.h,h.g,h.go,h.k,h.o⟩
 simp only
 rw[Vs]
 by_cases a:j=e
 ·subst a
  rw[Yj rfl,dU c]
  simp only[upd,YK]
  grind
 ·rw[Yi a,dU (dW b j)]
  simp only[upd,Yi a]
  exact h.s j
end
section
variable {P:Program} {l n:Nat} {H:Hp} {m:Mu} {S:Nat→Prop} {w w':World} {s:Nat→AV} {a:Act}
theorem Ok.allocO(h:Ok l H m S w)(k:Aa)(P:k.1≤l)(b:Blk)(K:b.e.isO=true)(u:b.cells=[])(O:(H k).g<b.g)(o:Obj)(D:w'.heap=w.heap.push o)
  (J:Hc w' S w.heap.size b.e) (F:w'.os=w.os) (G:w'.tape=w.tape) (I:w'.output=w.output):
  Ok l (updH H k b) (AU m k ⟨w.heap.size,0,0⟩) S w'∧Ext l H m S w (updH H k b) (AU m k ⟨w.heap.size,0,0⟩) S w':=by
 have d:∀i,i<w.heap.size→w'.heap[i]?=w.heap[i]?:=fun i hi=>by rw[D,IP,Yi (by omega)]
 have j:Ext l H m S w (updH H k b) (AU m k ⟨w.heap.size,0,0⟩) S w':=by
  refine⟨fun _ h=>h,fun i hi=>d i (h.sub i hi),fun q a=>?_,fun q a y hl=>?_,F,G,I,by rw[D];simp⟩
  ·by_cases e:q=k
   ·subst e;rw[AF];omega
   ·rw[Au _ _ e];exact Yg _
  ·by_cases e:q=k
   ·subst e;rw[AF]at y;omega
   ·rw[Au _ _ e]at hl⊢;rw[AL _ _ e];exact⟨hl,rfl,rfl⟩
 have B:∀q:Aa,q.1≤l→(H q).live=true→(m q).cap≠0→(m q).b<w.heap.size:=fun q a hl n=>by
  obtain⟨C,t,_⟩:=h.blk q a hl n
  grind
 have A:∀q:Aa,q.1≤l→(H q).live=true→(H q).e.isO=true→(m q).b<w.heap.size:=fun q a hl n=>by
  obtain⟨C,t,_⟩:=(h.mp.o q a hl).at n
  grind
 refine⟨⟨fun i hi=>?_,fun q a hl c=>?_,fun q a hl c=>?_,fun q s a r hl f c g heq=>?_,fun q a hl c=>?_,
  ⟨fun q a hl=>?_,fun q a hl he=>?_,fun q s a r hl f he p heq=>?_⟩⟩,j⟩
 ·have:=h.sub i hi;rw[D];simp;omega
 ·by_cases e:q=k
  ·subst e;rw[AF];exact u
  ·rw[Au _ _ e]at hl⊢;rw[AL _ _ e]at c;exact h.empty q a hl c
 ·by_cases e:q=k
  ·subst e;rw[AM]at c;exact absurd rfl c
  ·rw[Au _ _ e]at hl;rw[AL _ _ e]at c⊢;exact h.fresh q a hl c
 ·by_cases e:q=k
  ·subst e;rw[AM]at c;exact absurd rfl c
  ·by_cases e':s=k
   ·subst e';rw[AM]at g;exact absurd rfl g
   ·rw[AL _ _ e,AL _ _ e']at heq
    rw[Au _ _ e]at hl;rw[Au _ _ e']at f
    rw[AL _ _ e]at c;rw[AL _ _ e']at g
    exact h.inj q s a r hl f c g heq
 ·by_cases e:q=k
  ·subst e;rw[AM]at c;exact absurd rfl c
  ·rw[Au _ _ e]at hl⊢
   rw[AL _ _ e]at c⊢
   obtain⟨C,t,hs,z,N⟩:=h.blk q a hl c
   refine⟨C,by rw[d _ (B q a hl c)];exact t,hs,z,fun i x v hi M=>?_⟩
   obtain⟨E,g2⟩:=N i x v hi M
   exact⟨E,g2.ext j a⟩
 ·by_cases e:q=k
  ·subst e;rw[AF,AM];exact J
  ·rw[Au _ _ e]at hl⊢;rw[AL _ _ e]
   exact(h.mp.o q a hl).mono (fun _ h=>h) (fun i hi=>d i (h.sub i hi)) (fun L=>d _ (A q a hl L))
 ·by_cases e:q=k
  ·subst e;rw[AM];exact⟨⟨rfl,rfl⟩,fun hs=>by have:=h.sub _ hs;simp at this⟩
  ·rw[Au _ _ e]at hl he;rw[AL _ _ e];exact h.mp.c q a hl he
 ·by_cases e:q=k<;>by_cases e':s=k
  ·grind
  ·subst e
   rw[AM,AL _ _ e']at heq
   rw[Au _ _ e']at f p
   grind
  ·subst e'
   rw[AM,AL _ _ e]at heq
   rw[Au _ _ e]at hl he
   grind
  ·rw[AL _ _ e,AL _ _ e']at heq
   rw[Au _ _ e]at hl he;rw[Au _ _ e']at f p
   exact h.mp.i q s a r hl f he p heq
theorem Ok.writeO(h:Ok l H m S w)(k:Aa)(y:k.1≤l)(hl:(H k).live=true)(t:(H k).e.isO=true)(e':EK)(n:e'.isO=true)(o:Obj)
  (F:∀b,w'.heap[b]?=if b=(m k).b then some o else w.heap[b]?) (B:w'.heap.size=w.heap.size) (L:Hc w' S (m k).b e') (I:w'.os=w.os) (J:w'.tape=w.tape) (K:w'.output=w.output):
  Ok l (updH H k {H k with e:=e' }) m S w'∧Ext l H m S w (updH H k {H k with e:=e' }) m S w':=by
 obtain⟨R,T⟩:=h.mp.c k y hl t
 have j:Ext l H m S w (updH H k {H k with e:=e' }) m S w':=by
  refine⟨fun _ h=>h,fun b s=>?_,fun q d=>?_,fun q d U a=>?_,I,J,K,by omega⟩
  ·grind
  ·by_cases e:q=k
   ·subst e;rw[AF];exact Yg _
   ·rw[Au _ _ e];exact Yg _
  ·by_cases e:q=k
   ·subst e;rw[AF]at a⊢;exact⟨a,rfl,rfl⟩
   ·rw[Au _ _ e]at a⊢;exact⟨a,rfl,rfl⟩
 have f:∀q:Aa,(updH H k {H k with e:=e' } q).live=(H q).live:=fun q=>by
  by_cases e:q=k
  ·subst e;rw[AF]
  ·rw[Au _ _ e]
 have g:∀q:Aa,(H q).e.isO=(updH H k {H k with e:=e' } q).e.isO:=fun q=>by
  by_cases e:q=k
  ·subst e;rw[AF];exact t.trans n.symm
  ·rw[Au _ _ e]
 refine⟨⟨fun b s=>?_,fun q d a r=>?_,fun q d a r=>?_,fun q E d p a c r D heq=>?_,fun q d a r=>?_,
  ⟨fun q d a=>?_,fun q d a he=>?_,fun q E d p a c he n heq=>?_⟩⟩,j⟩
 ·rw[B];exact h.sub b s
 ·rw[f]at a
  have:=h.empty q d a r
  by_cases e:q=k
  ·subst e;rw[AF];exact this
  ·rw[Au _ _ e];exact this
 ·rw[f]at a;exact h.fresh q d a r
 ·rw[f]at a c;exact h.inj q E d p a c r D heq
 ·rw[f]at a
  by_cases e:q=k
  ·grind
  ·rw[Au _ _ e]
   obtain⟨C,s,hs,z,O⟩:=h.blk q d a r
   have A:(m q).b≠(m k).b:=fun u=>by
    obtain⟨V,P,Q⟩:=(h.mp.o k y hl).at t
    rw[u,P]at s;cases s;cases Q
   refine⟨C,by rw[F,Yi A];exact s,hs,z,fun i x v hi N=>?_⟩
   obtain⟨G,g2⟩:=O i x v hi N
   exact⟨G,g2.ext j d⟩
 ·rw[f]at a
  by_cases e:q=k
  ·subst e;rw[AF];exact L
  ·rw[Au _ _ e]
   refine(h.mp.o q d a).mono (fun _ h=>h) j.blk (fun M=>?_)
   rw[F,Yi (fun u=>e (h.mp.i q k d y a hl M t u))]
 ·rw[f]at a;rw[←g]at he;exact h.mp.c q d a he
 ·rw[f]at a c;rw[←g]at he n;exact h.mp.i q E d p a c he n heq
theorem MEnt.push{q:Bool}{es:List (List D)}{ents:Array MapEntry}{a:Nat}{s:ByteArray}{ds:List D}{v:Value}(h:MEnt w S q es ents a)(g:VR w S q ds v):
  MEnt w S q (es++[.str s::ds]) (ents.push {key:=.string s,val:=v,born:=a }) (a+1):=by
 have b:∀(i:Nat) (y:MapEntry),(ents.push {key:=.string s,val:=v,born:=a })[i]?=some y→(i=ents.size∧y={key:=.string s,val:=v,born:=a })∨(i≠ents.size∧ents[i]?=some y):=fun i y hy=>by
  grind
 refine⟨by simp[h.n],fun i k y z hy j e=>?_,fun i y hy=>?_,fun i e y hi hy=>?_⟩
 ·rcases b i y hy with⟨rfl,rfl⟩|⟨a1,c⟩<;>rcases b k z j with⟨rfl,rfl⟩|⟨l,f⟩
  ·rfl
  ·have:=h.clk k z f;simp only at e;omega
  ·have:=h.clk i y c;simp only at e;omega
  ·exact h.born i k y z c f e
 ·rcases b i y hy with⟨rfl,rfl⟩|⟨a1,c⟩
  ·grind
  ·exact Nat.lt_succ_of_lt (h.clk i y c)
 ·rcases b i y hy with⟨rfl,rfl⟩|⟨a1,c⟩
  ·rw[h.n,Ys (Yg _),Nat.sub_self]at hi
   cases hi
   exact⟨s,ds,rfl,rfl,g⟩
  ·have d:i<es.length:=by rw[←h.n];exact HS c
   rw[Yn d]at hi
   exact h.e i e y hi c
end
end Go.Eng
