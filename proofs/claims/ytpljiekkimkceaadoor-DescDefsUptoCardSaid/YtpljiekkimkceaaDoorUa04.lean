import Derived.Test.YtpljiekkimkceaaDoorUa03
import Derived.Test.YtpljiekkimkceaaDoorUa01
import Derived.Maps.RangeRun
import Derived.Test.YtpljiekkimkceaaDoorUa02
import Derived.Test.YtpljiekkimkceaaDoorUa00
namespace Go.Eng
open Go
set_option linter.all false
inductive Waits (ops:Array Oper):Nat→Nat→Prop
 |one {j i:Nat} {oj:Oper} {e:Edge} (hj:ops[j]?=some oj) (he:e∈oj.after) (hb:Region.binds .any e=true) (hi:e.on=i):Waits ops j i
 |more {j m i:Nat} {oj:Oper} {e:Edge} (hj:ops[j]?=some oj) (he:e∈oj.after) (hb:Region.binds .any e=true) (hm:e.on=m) (h:Waits ops m i):Waits ops j i
def DC(ops:Array Oper)(listed:Array Bool):Prop:=∀(m:Nat) (a:Oper),ops[m]?=some a→listed.getD m false=true→∀e∈a.after,Region.binds .any e=true→listed.getD e.on false=true
theorem DC.waits{ops:Array Oper}{listed:Array Bool}(h:DC ops listed){j i:Nat}(c:Waits ops j i):listed.getD j false=true→listed.getD i false=true:=by
 induction c with
 |one b he a hi=>intro hl;rw[←hi];exact h _ _ b hl _ he a
 |more b he a hm _ d=>intro hl;exact d (by rw[←hm];exact h _ _ b hl _ he a)
theorem Uv{listed:Array Bool}{i:Nat}(h:listed.getD i true=false):listed.getD i false=false:=by
 grind
theorem DC.ready{ops:Array Oper}{listed:Array Bool}(h:DC ops listed){j:Nat}(f:j∈Region.ready .any ops listed):DC ops (listed.setIfInBounds j true):=by
 obtain⟨i,k,c,a⟩:=mem_ready.1 f
 intro m g hm hl e he d
 by_cases b:j=m
 ·subst b
  rw[c]at hm
  cases hm
  exact getD_set_true (a e he d)
 ·rw[getD_set_ne false b]at hl
  exact getD_set_true (h m g hm hl e he d)
theorem DC.nowait{ops:Array Oper}{listed:Array Bool}(h:DC ops listed){j i:Nat}(g:j∈Region.ready .any ops listed)(hi:listed.getD i true=false):¬Waits ops j i:=fun k=>by
 obtain⟨l,m,c,b⟩:=mem_ready.1 g
 have hi:=Uv hi
 cases k with
 |one a he e f=>
  grind
 |more a he e hm d=>
  rw[c]at a
  cases a
  have:=h.waits d (by rw[←hm];exact b _ he e)
  grind
def AS(o:Oper):Bool:=match o.op,o.dst,o.guard with
 |.store _ _ _,none,none=>true
 |_,_,_=>false
def Db(o:Oper):Bool:=match o.op with
 |.move _=>true
 |.binOp b _ _ _ _=>(match b with|.add=>true|.sub=>true|_=>false)
 |.indexAddr _ _ _=>true
 |.fieldAddr _ _ _=>true
 |.nilCheck _=>true
 |_=>false
def Ln(H H':Hp):Prop:=∀k,(H' k).g=(H k).g∧(H' k).live=(H k).live∧(H' k).sz=(H k).sz
def G6(L:List Oper)(p:Oper)(k:Nat):Bool:=AR p k||p.after.toList.any fun e=>Region.binds .any e&&(match L[e.on]? with|some a=>AR a k|none=>false)
def IF(L:List Oper)(o:Oper)(k:Nat):Nat→List Oper→Bool
 |_,[]=>true
 |j,p::r=>(match AS o with|true=>AR p k|false=>true)&&(match AS p with|true=>Db o||G6 L p k|false=>true)&&!AR o j&&IF L o k (j+1) r
def He(L:List Oper):Nat→List Oper→Bool
 |_,[]=>true
 |k,o::r=>IF L o k (k+1) r&&He L (k+1) r
theorem Ot{L:List Oper}{o:Oper}{k:Nat}:∀{l:List Oper} {j i:Nat} {p:Oper},IF L o k j l=true→l[i]?=some p→(AS o=true→AR p k=true)∧(AS p=true→Db o=true∨G6 L p k=true)∧AR o (j+i)=false
 |[],j,i,p,_,h=>by simp at h
 |q::r,j,i,p,a,h=>by
  simp only[IF,Ye,Y4]at a
  cases i with
  |zero=>
   grind
  |succ i=>
   have:=Ot a.2 (i:=i) (by simpa using h)
   grind
theorem OH{L:List Oper}:∀{l:List Oper} {k i j:Nat} {o p:Oper},He L k l=true→i<j→l[i]?=some o→l[j]?=some p→(AS o=true→AR p (k+i)=true)∧(AS p=true→Db o=true∨G6 L p (k+i)=true)∧AR o (k+j)=false
 |[],k,i,j,o,p,_,_,h,_=>by simp at h
 |q::r,k,i,j,o,p,b,c,h,a=>by
  simp only[He,Ye]at b
  cases j with
  |zero=>omega
  |succ j=>
   have a:r[j]?=some p:=by simpa using a
   cases i with
   |zero=>
    simp only[YZ,Yd]at h
    subst h
    have:=Ot b.1 a
    grind
   |succ i=>
    have:=OH b.2 (Nat.lt_of_succ_lt_succ c) (by simpa using h) a
    grind
theorem Kv{p:Oper}{k:Nat}(h:AR p k=true)(b:∀e∈p.after,Region.binds .any e=true→e.on≠k):False:=by
 unfold AR at h
 rw[Y0]at h
 obtain⟨e,he,a⟩:=h
 simp only[Ye]at a
 exact b e (by simpa using he) a.1 (Ya a.2)
section
variable {P:Program} {l n:Nat} {B:Base} {H H':Hp} {ops:Array Oper} {ρ:Operand→AV}
theorem PG{o:Oper}{v:AV}(h:Db o=true)(hs:Ln H H')(a:qV P l H o ρ v):qV P l H' o ρ v:=by
 obtain⟨e,op,type,pos,after,guard⟩:=o
 cases op<;>simp only[Db]at h<;>first|(cases h;done)|skip
 case move=>exact a
 case nilCheck=>
  simp only[qV,Aq]at a⊢
  unfold DW at a⊢
  split at a
  ·rename_i k g off _
   obtain⟨b,c,d⟩:=hs k
   grind
  ·exact a
  ·grind
 case fieldAddr=>
  simp only[qV,Aq]at a⊢
  unfold Cg at a⊢
  split at a
  ·exact a
  ·rename_i k g off o n _ _
   obtain⟨b,c,d⟩:=hs k
   grind
  ·grind
 case indexAddr=>
  simp only[qV,Aq]at a⊢
  unfold BX at a⊢
  split at a
  ·exact a
  ·rename_i k g off len _ n _ sz _ _ _
   obtain⟨b,c,d⟩:=hs k
   grind
  ·grind
 case binOp=>
  simp only[qV,Aq]at a⊢
  unfold A9 at a⊢
  split at a
  ·exact a
  ·exact a
  ·grind
  ·exact a
  ·grind
  ·grind
theorem VE{o:Oper}{s:Nat→AV}{v:AV}(h:Db o=true)(hs:Ln H H')(a:YA P l H ops o s v):YA P l H' ops o s v:=by
 unfold YA at a⊢
 split at a
 ·exact PG h hs a
 ·split at a
  ·exact⟨fun e=>PG h hs (a.1 e),a.2⟩
  grind
def CP(P:Program)(l:Nat)(o:Oper)(s:Nat→AV)(H H':Hp):Prop:=match o.op with
 |.store t a x=>match ev s a,Bk (ev s x)with
  |.ptr k g off,some vs=>g=(H k).g∧(H k).live=true∧vs.length=P.cellsOf t∧vs≠[]∧off+vs.length≤(H k).cells.length∧(k.1=l+1∨vs.all (AV.low k.1)=true)∧
    H'=updH H k {H k with cells:=(H k).cells.take off++vs++(H k).cells.drop (off+vs.length) }
  |_,_=>False
 |_=>False
theorem TP{o:Oper}{s:Nat→AV}(h:CP P l o s H H'):Ln H H':=by
 unfold CP at h
 split at h
 ·split at h
  ·obtain⟨_,_,_,_,_,_,rfl⟩:=h
   intro k
   unfold updH
   grind
  grind
 grind
theorem UW{o:Oper}{s:Nat→AV}{K:St→Prop}(hs:AS o=true)(h:AF P l n o K ⟨s,H⟩):∃H',CP P l o s H H'∧K ⟨s,H'⟩:=by
 obtain⟨a,op,type,pos,after,guard⟩:=o
 cases op<;>simp only[AS]at hs<;>first|(cases hs;done)|skip
 cases a with
 |some d=>cases hs
 |none=>
  simp only[AF]at h
  simp only[CP]
  grind
theorem Vh{o:Oper}{s:Nat→AV}{K:St→Prop}(hs:AS o=true)(h:CP P l o s H H')(b:K ⟨s,H'⟩):AF P l n o K ⟨s,H⟩:=by
 obtain⟨a,op,type,pos,after,guard⟩:=o
 cases op<;>simp only[AS]at hs<;>first|(cases hs;done)|skip
 cases a with
 |some d=>cases hs
 |none=>
  simp only[CP]at h
  simp only[AF]
  grind
theorem TG{o:Oper}{s:Nat→AV}{d:Nat}{u:AV}(g:d∉o.looksAt ops)(h:CP P l o (upd s d u) H H'):CP P l o s H H':=by
 have b:∀x∈o.op.operands,ev (upd s d u) x=ev s x:=fun x i=>by
  cases x with
  |tmp t=>
   have c:t≠d:=fun e=>g (by
    subst e
    exact EQ _ (List.mem_filterMap.2 ⟨.tmp t,by simpa using i,rfl⟩))
   simp[ev,upd,c]
  |_=>rfl
 unfold CP at h⊢
 split at h
 ·rename_i t a x f
  rw[b a (by rw[f];simp[Op.operands]),b x (by rw[f];simp[Op.operands])]at h
  exact h
 grind
variable {fin:Bool} {X:St→Prop}
def Cw(P:Program)(l n:Nat)(ops:Array Oper)(fin:Bool)(X:St→Prop)(i:Nat)(K:St→Prop)(σ:St):Prop:=
 match ops[i]? with
 |none=>K σ
 |some o=>(Bv o=true∧∃d v,o.dst=some d∧d<n∧YA P l σ.H ops o σ.s v∧K ⟨upd σ.s d v,σ.H⟩)∨(AS o=true∧∃H',CP P l o σ.s σ.H H'∧K ⟨σ.s,H'⟩)∨(fin=true∧i+1=ops.size∧X σ)
def ED(P:Program)(l n:Nat)(ops:Array Oper)(fin:Bool)(X:St→Prop)(Q:St→Prop):Nat→Array Bool→St→Prop
 |0,listed,σ=>Region.ready .any ops listed=[]∧Q σ
 |fuel+1,listed,σ=>(Region.ready .any ops listed=[]→Q σ)∧∀i∈Region.ready .any ops listed,Cw P l n ops fin X i (ED P l n ops fin X Q fuel (listed.setIfInBounds i true)) σ
theorem Tj{i:Nat}{K g:St→Prop}{σ:St}(h:∀s,K s→g s)(b:Cw P l n ops fin X i K σ):Cw P l n ops fin X i g σ:=by
 unfold Cw at*
 split
 ·rename_i e;rw[e]at b;exact h _ b
 ·rename_i o e
  rw[e]at b
  rcases b with⟨a,d,v,c,f,j,k⟩|⟨a,H',c,f⟩|a
  ·exact .inl ⟨a,d,v,c,f,j,h _ k⟩
  ·exact .inr (.inl ⟨a,H',c,h _ f⟩)
  ·exact .inr (.inr a)
theorem UB{i j:Nat}{c t:Oper}{d:Nat}{v:AV}(A:ops[j]?=some t)(a:c.dst=some d)(m:c.apart ops t=true)(p:AS t=true→Db c=true)(r:fin=true→j+1≠ops.size){K:St→Prop}{s:Nat→AV}
  (hy:YA P l H ops c s v) (h:Cw P l n ops fin X j K ⟨upd s d v,H⟩):Cw P l n ops fin X j (fun g=>YA P l g.H ops c g.s v∧K ⟨upd g.s d v,g.H⟩) ⟨s,H⟩:=by
 obtain⟨w,x,y⟩:=Oper.apart_spec m
 unfold Cw at*
 simp only[A]at*
 rcases h with⟨b,e,u,he,o,f,k⟩|⟨b,H',f,k⟩|⟨b,z,_⟩
 ·refine .inl ⟨b,e,u,he,o,OC (w d a) f,Uk (y e he) hy,?_⟩
  have q:d≠e:=fun e'=>x d a (e'▸he)
  rw[SS (Ne.symm q)]
  exact k
 ·exact .inr (.inl ⟨b,H',TG (w d a) f,VE (p b) (TP f) hy,k⟩)
 ·exact absurd z (r b)
theorem RW{Q:St→Prop}{i:Nat}{o:Oper}{d:Nat}{v:AV}(hi:ops[i]?=some o)(hq:Bv o=true)(D:o.dst=some d)(L:d<n):
  ∀(fuel:Nat) (listed:Array Bool) (s:Nat→AV) (H:Hp),
   (∀j u,ops[j]?=some u→j≠i→listed.getD j true=false→(∀e∈u.after,Region.binds .any e=true→e.on≠i∧∀a,ops[e.on]?=some a→AR a i=false)→¬Waits ops j i→o.apart ops u=true∧(AS u=true→Db o=true)∧(fin=true→j+1≠ops.size))→DC ops listed→
   (∀m a,ops[m]?=some a→AR a i=true→listed.getD m true=false)→i∈Region.ready .any ops listed→YA P l H ops o s v→
   ED P l n ops fin X Q fuel (listed.setIfInBounds i true) ⟨upd s d v,H⟩→ED P l n ops fin X Q (fuel+1) listed ⟨s,H⟩:=by
 have w:∀{K:St→Prop} {s:Nat→AV} {H:Hp},YA P l H ops o s v→K ⟨upd s d v,H⟩→Cw P l n ops fin X i K ⟨s,H⟩:=fun hy hK=>by
  unfold Cw;simp only[hi];exact .inl ⟨hq,d,v,D,L,hy,hK⟩
 intro fuel
 induction fuel with
 |zero=>
  intro listed s H _ _ T t hy B
  refine⟨fun h=>(by rw[h]at t;cases t),fun j A=>?_⟩
  by_cases b:j=i
  ·subst b;exact w hy B
  ·have:=ready_mono A b
   rw[B.1]at this
   cases this
 |succ fuel ih=>
  intro listed s H f W T t hy B
  refine⟨fun h=>(by rw[h]at t;cases t),fun j A=>?_⟩
  by_cases b:j=i
  ·subst b;exact w hy B
  ·have c:=B.2 j (ready_mono A b)
   obtain⟨q,u,z,p⟩:=mem_ready.1 A
   have r:∀e∈u.after,Region.binds .any e=true→e.on≠i:=fun e he I heq=>by
    have c:=p e he I
    have C:=(mem_ready.1 t).1
    rw[heq]at c
    rcases Yq i listed.size with x|x
    ·simp[x]at C c;rw[C]at c;cases c
    ·simp[YU x]at c
   have y:∀e∈u.after,Region.binds .any e=true→e.on≠i∧∀a,ops[e.on]?=some a→AR a i=false:=fun e he I=>⟨r e he I,fun a S=>by
    cases J:AR a i with
    |false=>rfl
    |true=>
     have c:=p e he I
     have C:=T _ a S J
     rcases Yq e.on listed.size with x|x
     ·simp[x]at C c;rw[C]at c;cases c
     ·simp[YU x]at c⟩
   have M:=f j u z b q y (W.nowait A (mem_ready.1 t).1)
   have Z:=UB (i:=i) z D M.1 M.2.1 M.2.2 hy c
   have g:∀k ok,ops[k]?=some ok→k≠i→(listed.setIfInBounds j true).getD k true=false→
     (∀e∈ok.after,Region.binds .any e=true→e.on≠i∧∀a,ops[e.on]?=some a→AR a i=false)→¬Waits ops k i→o.apart ops ok=true∧(AS ok=true→Db o=true)∧(fin=true→k+1≠ops.size):=fun k ok hk N G O R=>by
    refine f k ok hk N ?_ O R
    by_cases E:j=k
    ·subst E;exact q
    ·rw[getD_set_ne true E]at G;exact G
   have U:∀m a,ops[m]?=some a→AR a i=true→(listed.setIfInBounds j true).getD m true=false:=fun m a hm J=>by
    by_cases F:j=m
    ·subst F
     rw[z]at hm
     cases hm
     exact(Kv J r).elim
    ·rw[getD_set_ne true F];exact T m a hm J
   refine Tj (fun Y V=>ih (listed.setIfInBounds j true) Y.s Y.H g (W.ready A) U (ready_mono t (Ne.symm b)) V.1 ?_) Z
   rw[Array.setIfInBounds_comm _ _ b]
   exact V.2
theorem Nw{K K0:St→Prop}{m:Nat}(p:∀k (listed:Array Bool) (s:Nat→AV) (H:Hp),k+m=ops.size→(∀j,listed.getD j true=false→k≤j)→Region.lexFrom .any ops m k listed=true→K0 ⟨s,H⟩→ED P l n ops fin X K m listed ⟨s,H⟩)(w:fin=true→∀i,i+1<ops.size→Waits ops (ops.size-1) i)(z:∀i j N u,i<j→ops[i]?=some N→ops[j]?=some u→(AS N=true→AR u i=true)∧(AS u=true→Db N=true∨G6 ops.toList u i=true)∧AR N j=false):
  ∀(rest:List Oper) (k:Nat) (listed:Array Bool) (s:Nat→AV) (H:Hp),rest.all (fun o=>Bv o||AS o)=true→(∀j,listed.getD j true=false→k≤j)→(∀j,k≤j→j<ops.size→listed.getD j true=false)→
  k+rest.length+m=ops.size→DC ops listed→(∀j,j<rest.length→rest[j]?=ops[k+j]?)→Region.lexFrom .any ops (rest.length+m) k listed=true→BQ P l n (ops.toList.map (·.dst)) rest K0 ⟨s,H⟩→ED P l n ops fin X K (rest.length+m) listed ⟨s,H⟩
 |[],k,listed,s,H,_,F,_,r,_,_,C,h=>by
  simp only[YX,YH,CR]at C r⊢
  exact p k listed s H r F C h
 |o::rest,k,listed,s,H,Z,F,hk2,r,hD,hl,C,h=>by
  have M:ops[k]?=some o:=by simpa using(hl 0 (by simp)).symm
  rw[YQ,Nat.add_right_comm]at C⊢
  simp only[Region.lexFrom,Ye]at C
  obtain⟨⟨D,hf⟩,Q⟩:=C
  have D:k∈Region.ready .any ops listed:=by simpa using D
  simp only[Eo,Ye,YE]at Z
  have U:∀j,(listed.setIfInBounds k true).getD j true=false→k+1≤j:=fun j E=>by
   by_cases g:k=j
   ·subst g
    exfalso
    rcases Yq k listed.size with L|L
    ·simp[L]at E
    grind
   ·rw[getD_set_ne true g]at E
    grind
  have G:∀j,k+1≤j→j<ops.size→(listed.setIfInBounds k true).getD j true=false:=fun j h1 h2=>by
   rw[getD_set_ne true (by omega)]
   grind
  have hu:∀m om,ops[m]?=some om→AR om k=true→listed.getD m true=false:=fun m om hm ho=>by
   grind
  have W:∀j,j<rest.length→rest[j]?=ops[k+1+j]?:=fun j E=>by have:=hl (j+1) (by simp;omega);simpa[Yr,JD 1 j]using this
  have next:∀s' H',BQ P l n (ops.toList.map (·.dst)) rest K0 ⟨s',H'⟩→ED P l n ops fin X K (rest.length+m) (listed.setIfInBounds k true) ⟨s',H'⟩:=fun s' H' L=>
   Nw p w z rest (k+1) _ s' H' (by simpa using Z.2) U G (by simp only[YQ]at r;omega) (hD.ready D) W Q L
  by_cases a:AS o=true
  ·
   have y:o.guard=none:=by
    cases y:o.guard with
    |none=>rfl
    |some _=>obtain⟨O,op,type,pos,after,guard⟩:=o;simp only at y;subst y;cases op<;>cases O<;>simp[AS]at a
   have J:AF P l n o (BQ P l n (ops.toList.map (·.dst)) rest K0) ⟨s,H⟩:=by
    unfold BQ at h
    simp only[y]at h
    unfold Ct at h
    split at h
    ·rename_i R;simp[AS,R]at a
    ·rename_i c R;simp[AS,R]at a
    ·exact h
   obtain⟨H',hS,hK⟩:=UW a J
   refine⟨fun h=>(by rw[h]at D;cases D),fun j E=>?_⟩
   by_cases g:j=k
   ·subst g
    unfold Cw
    grind
   ·exfalso
    obtain⟨f,u,q,hall⟩:=mem_ready.1 E
    have V:=F j f
    have he:=(z k j o u (by omega) M q).1 a
    refine Kv he fun e he x heq=>?_
    grind
  ·have B:Bv o=true:=by rcases Z.1 with h|h;exact h;exact absurd h a
   have hst:∃d v,o.dst=some d∧d<n∧YA P l H ops o s v∧BQ P l n (ops.toList.map (·.dst)) rest K0 ⟨upd s d v,H⟩:=by
    unfold BQ at h
    unfold YA
    cases y:o.guard with
    |none=>simp only[y]at h;exact NR B h
    |some gw=>
     obtain⟨i,b⟩:=gw
     simp only[y]at h⊢
     split at h
     ·rename_i t ht
      cases t with
      |true=>
       obtain⟨d,v,h1,h2,h3,h4⟩:=NR B (h.1 rfl)
       grind
      |false=>
       grind
     grind
   obtain⟨d,v,hd,S,hy,hK⟩:=hst
   refine RW M B hd S (rest.length+m) listed s H (fun j u q g f I Y=>⟨Region.free_spec M hf j u q g f (fun e he x=>(I e he x).1),fun hsj=>?_,fun T A=>Y (by have:=w T k (by have:=F j f;omega);rwa [←A,Nat.add_sub_cancel]at this)⟩) hD hu D hy (next _ _ hK)
   have V:=F j f
   rcases(z k j o u (by omega) M q).2.1 hsj with h|h
   ·exact h
   ·exfalso
    unfold G6 at h
    rw[YE]at h
    rcases h with h|h
    ·exact Kv h fun e he x=>(I e he x).1
    ·obtain⟨e,he,x⟩:=Y0.1 h
     rw[Ye]at x
     obtain⟨Cv,Ad⟩:=x
     split at Ad
     ·grind
     grind
theorem Q5{i:Nat}{σ:St}{a:Act}{w:World}{K:St→Prop}{q:Act→World→Prop}{f:Exit→Act→World→Prop}(r:R l n B σ a w)
  (h:∀σ a w,R l n B σ a w→K σ→q a w) (L:fin=true→i+1=ops.size→X σ→wpOp P ops f i q a w) (A:Cw P l n ops fin X i K σ):wpOp P ops f i q a w:=by
 have z:=L
 obtain⟨s,H⟩:=σ
 unfold Cw at A
 unfold wpOp
 split
 ·grind
 ·rename_i o G
  simp only[G]at A
  rcases A with⟨C,d,v,F,g,hy,E⟩|⟨k,H',y,E⟩|⟨T,U,V⟩
  rotate_left 2
  ·have:=z T U V
   unfold wpOp at this
   simpa only[G]using this
  ·have go:qV P l H o (ev s) v→o.wp P a w q f:=fun Q=>by
    have:=UP (B:=B) C F g Q a w r f
    refine Oper.wp_mono (fun I w' ⟨D,e,x⟩=>?_) this
    grind
   unfold YA at hy
   cases c:o.guard with
   |none=>
    simp only[c]at hy
    rw[Yt (by simp[Region.wanted,c])]
    grind
   |some J=>
    obtain⟨j,b⟩:=J
    simp only[c]at hy
    split at hy
    ·rename_i t O
     have p:(yielded ops a.tmps j==some b)=t:=by
      obtain⟨m,S,W,Y,M,y,N⟩:=r.un
      exact Nb y O
     cases t with
     |true=>
      rw[Yt (by simp only[Region.wanted,c];exact p)]
      grind
     |false=>
      rw[Yy (by simp only[Region.wanted,c,p];decide)]
      have:=hy.2 rfl
      subst this
      rw[F]
      exact h _ _ _ (R.undef r g) E
    grind
  ·have c:o.guard=none:=by
    cases c:o.guard with
    |none=>rfl
    |some _=>obtain⟨u,op,type,pos,after,guard⟩:=o;simp only at c;subst c;cases op<;>cases u<;>simp[AS]at k
   rw[Yt (by simp[Region.wanted,c])]
   refine .inl ?_
   have:=Gl (B:=B) (Vh (n:=n) (K:=fun D=>D=⟨s,H'⟩) k y rfl) a w r f
   refine Oper.wp_mono (fun I w' ⟨D,e,x⟩=>?_) this
   grind
theorem ML{c:Exit→Act→World→Prop}{b:Array Bool}(h:Region.ready .any ops b=[]){a:Act}{w:World}(d:c .normal a w):∀fuel,wpAny P .any ops c fuel b a w
 |0=>⟨h,d⟩
 |_+1=>⟨fun _=>d,fun i hi=>by rw[h]at hi;cases hi⟩
theorem MG{Q:St→Prop}{m:Exit→Act→World→Prop}(q:∀σ a w,R l n B σ a w→Q σ→m .normal a w)(b:fin=true→∀i,i+1<ops.size→Waits ops (ops.size-1) i)(y:fin=true→∀σ a w,R l n B σ a w→X σ→∀o,ops[ops.size-1]?=some o→wpList P ops m [o] a w):
  ∀(fuel:Nat) (listed:Array Bool) (σ:St) (a:Act) (w:World),DC ops listed→R l n B σ a w→ED P l n ops fin X Q fuel listed σ→wpAny P .any ops m fuel listed a w
 |0,_,_,_,_,_,d,h=>⟨h.1,q _ _ _ d h.2⟩
 |fuel+1,listed,σ,a,w,x,d,h=>⟨fun u=>q _ _ _ d (h.1 u),fun i hi=>Q5 d (fun s' t w' r D=>MG q b y fuel _ s' t w' (x.ready hi) r D) (fun C J H=>by
  obtain⟨u,o,A,z⟩:=mem_ready.1 hi
  have e:ops.size-1=i:=by omega
  have hw:=y C σ a w d H o (by rw[e];exact A)
  have g:Region.ready .any ops (listed.setIfInBounds i true)=[]:=by
   refine List.eq_nil_iff_forall_not_mem.2 fun j E=>?_
   obtain⟨k,I,s,_⟩:=mem_ready.1 E
   have F:j<ops.size:=(Yu.1 s).1
   by_cases f:i=j
   ·subst f
    rcases Yq i listed.size with p|p
    ·simp[p]at k
    ·simp[YU p]at k
   ·rw[getD_set_ne true f]at k
    have v:=b C j (by omega)
    rw[e]at v
    exact x.nowait hi k v
  unfold wpOp
  simp only[A]
  unfold wpList at hw
  split
  ·rename_i c
   rw[Yt c]at hw
   exact hw.imp (Oper.wp_mono fun t w' G=>ML g G _) id
  ·rename_i c
   rw[Yy c]at hw
   exact ML g hw _) (h.2 i hi)⟩
theorem DC.none(n:Nat):DC ops (Array.replicate n false):=fun m b _ h=>by
 rw[Yv]at h
 rcases Yq m n with a|a
 ·simp[a]at h
 ·simp[Nat.not_lt.2 a]at h
theorem Rp{id:Nat}{ops:List Oper}{σ:St}{Q:Exit→St→Prop}(hm:P.follows .mixedOrders=true)(c:Region.lexB .any ops.toArray=true)(D:ops.all (fun o=>Bv o||AS o)=true)(hs:He ops 0 ops=true)
  (h:BQ P l n (ops.map (·.dst)) ops (Q .normal) σ):AI P l n B (.region id ops.toArray true) Q σ:=by
 intro a w y
 obtain⟨s,H⟩:=σ
 simp only[Region.lexB,Ye]at c
 have v:=Nw (P:=P) (l:=l) (n:=n) (ops:=ops.toArray) (K:=Q .normal) (K0:=Q .normal) (m:=0) (fin:=false) (X:=fun _=>False) (fun k d s H _ _ c h=>⟨by simpa[Region.lexFrom]using c,h⟩) (fun e=>by cases e) (fun i j F G q hi A=>by
   have:=OH hs q (by simpa using hi) (by simpa using A)
   simpa using this) ops 0 (Array.replicate ops.toArray.size false) s H D (fun _ _=>CT _) (fun j _ h=>by simp at h;simp[h]) (by simp) (DC.none _) (by simp) (by simpa using c.2) (by simpa using h)
 have f:R l n B ⟨s,H⟩ a {w with drawn:=w.drawn+1 }:=by
  obtain⟨m,S,x,C,g,z,p⟩:=y.un
  obtain⟨t,u⟩:=x.drew (w':={w with drawn:=w.drawn+1 }) rfl rfl rfl rfl
  exact R.keep t C g z p u
 refine wp_region_any hm (MG (Q:=Q .normal) (fin:=false) (X:=fun _=>False) (fun I E w' b r=>⟨_,r,b⟩) (fun e=>by cases e) (fun e=>by cases e) _ _ _ a _ (DC.none _) f (by simpa using v))
end
end Go.Eng
namespace Go.Eng
set_option linter.all false
open Go Go.RowKit
section
variable {P:Program} {T:Nat→Option TI} {r:Ren} {H H':Hp} {g:Option Bool} {a:AT} {K:AV→AT→Prop}
def KR(r:Ren)(K:AV→AT→Prop)(y:AV):Prop:=∃v a,y=ren r v∧K v a
theorem KR.mk{v:AV}{a:AT}(h:K v a):KR r K (ren r v):=⟨v,a,rfl,h⟩
theorem KR.mk'{v y:AV}{a:AT}(h:K v a)(e:y=ren r v):KR r K y:=⟨v,a,e,h⟩
theorem OA{t:TypeId}{i:TI}(hi:TIok P t i)(h:(i.str||i.elm.isSome)=true):Ef P t=true:=by
 rw[YE]at h
 unfold Ef
 rcases h with h|h
 ·have:=hi.str h
  unfold FN at this
  split at this
  ·rename_i a _;rw[a]
  ·cases this
 ·obtain⟨e,he⟩:=YP.1 h
  obtain⟨b,c⟩:=e
  have:=(Cf (hi.elm _ he)).1
  rw[this]
theorem J7{t:TypeId}{i:TI}(hi:TIok P t i)(w:BF r H H')(p:∀b,g=some b→b=true){x:AV}(h:Fs i H x g a K):B4 P H' t (ren r x) (KR r K):=by
 unfold Fs at h
 cases x<;>simp only at h<;>try exact h.elim
 case iptr cs off=>
  simp only[ren,B4,hi.agg,hi.siz]
  split at h
  ·rename_i he
   rw[he]
   split at h
   ·rename_i c d f
    obtain⟨m,n⟩:=Kn _ _ _ f
    have d:=Yf d
    rw[ET]at n
    exact⟨by omega,by omega,.mk' h (by rw[m,ren,DN])⟩
   grind
  ·rename_i he
   rw[he]
   rw[B1]at h
   simp only
   split at h
   ·rename_i c o;simp only[o];exact .mk' h rfl
   grind
 case ptr k q off=>
  simp only[ren,B4,hi.agg,hi.siz]
  split at h
  ·rename_i hl
   obtain⟨g1,s,g3,g4,u⟩:=w.at hl
   refine⟨g1,s,?_⟩
   rw[u]
   split at h
   ·split at h
    ·rename_i he
     rw[he]
     split at h
     ·rename_i c d f
      obtain⟨m,n⟩:=Kn _ _ _ f
      have d:=Yf d
      rw[ET]at n
      exact⟨by omega,by rw[Bc];omega,.mk' h (by rw[ren,Ce,Co,m])⟩
     grind
    ·rename_i he
     rw[he]
     rw[B1]at h
     split at h
     ·rename_i c o;simp only[Dl,o,YB];exact .mk' h rfl
     grind
   ·split at h
    ·rename_i he
     rw[he]
     split at h
     ·rename_i c y d f
      have d:=Yf d
      have f:=Ya f
      have j:CW _ _ _:=AD p h.1
      unfold CW at j
      rw[f]at j
      have v:=congrArg List.length j
      rw[YR,ET]at v
      exact⟨by omega,by rw[Bc];omega,.mk' h.2 (by rw[ren,Ce,Co,j])⟩
     grind
    ·rename_i he
     rw[he]
     split at h
     ·rename_i x
      have j:CW _ _ _:=AD p h.1
      unfold CW at j
      have e:(H k).cells[off]?=some x:=by
       have:=congrArg (fun l=>l[0]?) j
       grind
      simp only[Dl,e,YB]
      exact .mk' h.2 rfl
     grind
   grind
  ·grind
theorem Ih{t:TypeId}{i:TI}(hi:TIok P t i){f:Nat}{x:Nat×Nat×Bool}(h:AY i.fld f=some x):fld P t f=some (x.1,x.2.1)∧FD P t f=some x:=by
 rw[B1]at h;exact hi.fld f x h
theorem QE{t:TypeId}{i:TI}(hi:TIok P t i)(g:BF r H H'){f:Nat}{x:AV}(h:HO i H f x a K):Cg P H' t f (ren r x) (KR r K):=by
 unfold HO at h
 split at h
 ·rename_i o n b j
  have e:=(Ih hi j).1
  split at h
  ·rename_i c
   have c:=Yf c
   unfold Cg
   rw[e]
   split at h
   ·simp only[ren];exact⟨by omega,.mk' h rfl⟩
   ·split at h
    ·rename_i hl
     obtain⟨g1,d,_⟩:=g.at hl
     simp only[ren];exact⟨by omega,g1,d,.mk' h rfl⟩
    grind
   grind
  grind
 grind
theorem QR{t:TypeId}{i:TI}(hi:TIok P t i){f:Nat}{x:AV}(h:If i f x a K):Ch P t f (ren r x) (KR r K):=by
 unfold If at h
 rw[Sx]
 split at h
 ·rename_i o n cs b
  rw[(Ih hi b).2]
  split at h
  ·rename_i d
   have d:=Yf d
   simp only[ren,G5]
   exact⟨by omega,.mk' h (by rw[ren,Ce,Co])⟩
  grind
 ·rename_i o n cs b
  rw[(Ih hi b).2]
  rw[B1]at h
  split at h
  ·rename_i c e
   simp only[ren,G5,Dl,e,YB]
   exact .mk' h rfl
  grind
 grind
theorem QF{t:TypeId}{i:TI}(hi:TIok P t i)(u:BF r H H')(m:∀b,g=some b→b=true){x j:AV}(h:HQ i H x j g a K):BX P H' t (ren r x) (ren r j) (KR r K):=by
 unfold HQ at h
 split at h
 ·rename_i e sz k n he
  have he:=hi.elm _ he
  split at h
  ·rename_i es e' q
   split at h
   ·rename_i c d
    have c:=Ya c
    have d:=Yf d
    obtain⟨f,l⟩:D8 _ _ _:=AD m h.1
    simp only[ren,BX,he]
    refine⟨f,?_⟩
    rw[l]
    exact⟨c,by omega,.mk' h.2 rfl⟩
   grind
  ·rename_i k q off len o w
   split at h
   ·rename_i hl c d
    have c:=Ya c
    have d:=Yf d
    obtain⟨g1,p,g3,g4,v⟩:=u.at hl
    obtain⟨f,l,s⟩:IA _ _ _ _ _:=AD m h.1
    simp only[ren,BX,he]
    exact⟨f,l,g1,p,by rw[g4,c],by omega,.mk' h.2 (by rw[ren,s])⟩
   grind
  grind
 grind
theorem Ri{t:TypeId}{i:TI}(hi:TIok P t i)(m:∀b,g=some b→b=true){x j:AV}(h:Ij i x j g a K):Cp P t (ren r x) (ren r j) (KR r K):=by
 unfold Ij at h
 split at h
 ·rename_i s k n b q
  split at h
  ·rename_i d
   have d:=Ya d
   obtain⟨e,c,f,l⟩:Qe _ _ _:=AD m h.1
   simp only[ren,Cp]
   refine⟨by rw[hi.kin];exact d,e,?_⟩
   rw[f]
   exact .mk' h.2 (by rw[ren,l])
  grind
 grind
theorem R7{op:BinOp}{k:IntKind}{x y:Int}(c:∀b,g=some b→b=true)(h:IH op k x y g a K):CL op k x y (KR r K):=by
 unfold IH at h
 cases op<;>simp only at h<;>try exact h.elim
 all_goals simp only[CL]
 case eql=>exact .mk' h rfl
 case neq=>exact .mk' h rfl
 case lss=>exact .mk' h rfl
 case leq=>exact .mk' h rfl
 case gtr=>exact .mk' h rfl
 case geq=>exact .mk' h rfl
 case add|sub|mul=>
  split at h
  ·have e:A7 _ _ _:=AD c h.1
   unfold A7 at e
   rw[e];exact .mk' h.2 rfl
  ·grind
 case and|or|xor=>
  split at h
  ·have e:AK _ _:=AD c h.1
   unfold AK at e
   rw[e];exact .mk' h.2 rfl
  ·grind
 case quo=>
  split at h
  ·have e:A7 _ _ _:=AD c h.2.1
   unfold A7 at e
   rw[e];exact⟨AD c h.1,.mk' h.2.2 rfl⟩
  ·grind
 case rem=>
  split at h
  ·have e:AK _ _:=AD c h.2.1
   unfold AK at e
   rw[e];exact⟨AD c h.1,.mk' h.2.2 rfl⟩
  ·grind
 case shr=>
  split at h
  ·have e:AK _ _:=AD c h.2.1
   unfold AK at e
   rw[e];exact⟨AD c h.1,.mk' h.2.2 rfl⟩
  ·grind
 case shl=>
  split at h
  ·have e:A7 _ _ _:=AD c h.2.1
   unfold A7 at e
   rw[e];exact⟨AD c h.1,.mk' h.2.2 rfl⟩
  ·grind
theorem Rm{op:BinOp}{x y:ByteArray}(c:∀b,g=some b→b=true)(h:II op x y g a K):CK op x y (KR r K):=by
 unfold II at h
 cases op<;>simp only at h<;>try exact h.elim
 all_goals simp only[CK]
 case add=>exact⟨AD c h.1,.mk' h.2 rfl⟩
 all_goals exact .mk' h rfl
theorem MJ{neg:Bool}{x:AV}(f:BF r H H')(h:FJ H neg x a K):BH H' neg (ren r x) (KR r K):=by
 unfold FJ at h
 split at h
 ·simp only[ren,BH];exact fun b=>.mk' (h b) rfl
 ·rename_i es
  cases es with
  |nil=>simp only[ren,BH];exact fun b=>.mk' (h b (fun e=>absurd rfl e)) rfl
  |cons e es=>simp only[ren,BH];exact .mk' (h neg (fun _=>rfl)) rfl
 ·rename_i k q off n
  split at h
  ·rename_i hl
   obtain⟨g1,d,_⟩:=f.at hl
   simp only[ren,BH]
   exact⟨⟨g1,d⟩,fun c=>.mk' (h neg (fun _=>rfl)) rfl,fun c b=>.mk' (h b (fun e=>absurd c e)) rfl⟩
  grind
 grind
theorem M7:∀(ks:List Nat) (xs ys:List AV) (b:Bool),B5 ks xs ys=some b→B5 ks (Ab r xs) (Ab r ys)=some b
 |[],[],[],b,h=>by simpa[Ab]using h
 |k::ks,x::xs,y::ys,b,h=>by
  cases x<;>cases y<;>simp only[B5]at h<;>try (cases h;done)
  rename_i x y
  simp only[Ab,ren,B5]
  split at h
  ·rename_i d e a c
   simp only[a,M7 ks xs ys _ c]
   exact h
  ·cases h
 |[],[],_::_,b,h=>by simp[B5]at h
 |[],_::_,_,b,h=>by simp[B5]at h
 |_::_,[],_,b,h=>by simp[B5]at h
 |_::_,x::_,[],b,h=>by cases x<;>simp[B5]at h
theorem UI{H:Hp}{op:BinOp}{t:TypeId}{a:Bool}{x:AV}{K:AV→Prop}:A9 P H op t a x .e0 K=(a=true∧kin P t=4∧match op with|.eql=>BH H false x K|.neq=>BH H true x K|_=>False):=by
 unfold A9
 grind
theorem Rq{t:TypeId}{i:TI}(hi:TIok P t i)(e:BF r H H')(f:∀b,g=some b→b=true){op:BinOp}{j:Bool}{x y:AV}(h:Ix i H op j x y g a K):A9 P H' op t j (ren r x) (ren r y) (KR r K):=by
 unfold Ix at h
 split at h
 ·split at h
  ·rename_i c
   simp only[ren,A9]
   exact⟨U0 c,R7 f h⟩
  grind
 ·simp only[ren,A9];exact Rm f h
 ·split at h
  ·rename_i c
   simp only[ren,A9]
   refine⟨by rw[hi.kin];exact Ya c,?_⟩
   split at h
   ·exact .mk' h rfl
   ·exact .mk' h rfl
   grind
  grind
 ·rename_i xs ys
  split at h
  ·rename_i ks d
   split at h
   ·rename_i b l
    simp only[ren,A9,C8,hi.eqt _ d,M7 _ _ _ _ l]
    split at h
    ·exact .mk' h rfl
    ·exact .mk' h rfl
    grind
   grind
  grind
 ·rw[show ren r .e0=.e0 from by simp[ren],UI]
  split at h
  ·rename_i m k
   refine⟨rfl,by rw[hi.kin];exact Ya k,?_⟩
   split at h
   ·exact MJ e h
   ·exact MJ e h
   grind
  grind
 grind
theorem Sh{op:UnOp}{x:AV}(c:∀b,g=some b→b=true)(h:I4 op x g a K):Cd op (ren r x) (KR r K):=by
 unfold I4 at h
 split at h
 ·simp only[ren,Cd];exact .mk' h rfl
 ·split at h
  ·have e:A7 _ _ _:=AD c h.1
   unfold A7 at e
   simp only[ren,Cd]
   rw[e];exact .mk' h.2 rfl
  grind
 ·split at h
  ·have e:AK _ _:=AD c h.1
   unfold AK at e
   simp only[ren,Cd]
   rw[e];exact .mk' h.2 rfl
  grind
 grind
theorem Q7{s d:TypeId}{i j:TI}(hi:TIok P s i)(k:TIok P d j){x:AV}(l:∀b,g=some b→b=true)(h:Ip i j x g a K):Ci P s d (ren r x) (KR r K):=by
 unfold Ip at h
 split at h
 ·split at h
  ·rename_i q n p k' o m t c f
   have e:A7 _ _ _:=AD l h.1
   unfold A7 at e
   simp only[ren,Ci,hi.ik _ c,k.ik _ f]
   rw[e];exact .mk' h.2 rfl
  grind
 ·split at h
  ·rename_i c f
   simp only[ren,Ci,Dm (by rw[hi.kin];exact Ya c),Dm (by rw[k.kin];exact Ya f)]
   exact .mk' h rfl
  grind
 grind
theorem Fe{d l:Nat}{o a:Option AV}(h:Cz d o l)(b:a=o.map (ren r)):BR d a=some l:=by
 subst b
 unfold Cz at h
 split at h
 ·simp[BR,h]
 ·subst h
  simp[BR,ren]
 grind
theorem Rg{t:TypeId}{i:TI}(hi:TIok P t i)(z:BF r H H')(c:∀b,g=some b→b=true){x:AV}{lo q:Option AV}{v:Bool}(h:Ie i H x lo q v g a K):
  B3 P H' t (ren r x) (lo.map (ren r)) (q.map (ren r)) v (KR r K):=by
 unfold Ie at h
 split at h
 ·split at h
  ·split at h
   ·rename_i A
    obtain⟨m,n,o,p⟩:=h
    have f:=Fe (r:=r) (AD c m) rfl
    have j:=Fe (r:=r) (AD c n) rfl
    have d:Ek _ _ _:=AD c o
    simp only[ren,B3,f,j]
    exact⟨by rw[hi.kin];exact Ya A,trivial,d.1,d.2,.mk' p rfl⟩
   grind
  ·split at h
   ·rename_i e sz w B he
    split at h
    ·rename_i l
     have l:=Yf l
     obtain⟨m,n,o,p,u⟩:=h
     have f:=Fe (r:=r) (AD c m) rfl
     have j:=Fe (r:=r) (AD c n) rfl
     have d:Ek _ _ _:=AD c o
     have k:Md _ _ _ _ _:=AD c p
     simp only[ren,B3,f,j,hi.elm _ he]
     exact⟨trivial,by omega,k.1,d.1,d.2,.mk' u (by rw[ren,k.2])⟩
    grind
   grind
  ·split at h
   ·rename_i e sz E D B he hl
    split at h
    ·rename_i l s
     have l:=Yf l
     obtain⟨g1,y,g3,g4,C⟩:=z.at hl
     obtain⟨m,n,o,p,u⟩:=h
     have f:=Fe (r:=r) (AD c m) rfl
     have j:=Fe (r:=r) (AD c n) rfl
     have d:Ek _ _ _:=AD c o
     have k:Me _ _ _ _ _:=AD c p
     simp only[ren,B3,f,j,hi.elm _ he]
     exact⟨trivial,g1,y,by omega,by rw[g4];exact Ya s,d.1,d.2,.mk' u (by rw[ren,k.1,k.2])⟩
    grind
   grind
  grind
 grind
theorem RP{t:TypeId}{i:TI}(hi:TIok P t i)(j:BF r H H')(d:∀b,g=some b→b=true){x:AV}(h:IC i H x g a K):BK P H' t (ren r x) (KR r K):=by
 unfold IC at h
 split at h
 ·split at h
  ·rename_i c
   have e:AK _ _:=AD d h.1
   unfold AK at e
   simp only[ren,BK,hi.kin]
   exact⟨Ya c,.mk' h.2 (by rw[ren,e])⟩
  grind
 ·split at h
  ·rename_i c
   have e:AK _ _:=AD d h.1
   unfold AK at e
   simp only[ren,BK,hi.kin]
   exact⟨Ya c,.mk' h.2 (by rw[ren,e])⟩
  grind
 ·split at h
  ·rename_i c
   have e:AK _ _:=AD d h.1
   unfold AK at e
   simp only[ren,BK,hi.kin]
   exact⟨Ya c,.mk' h.2 (by rw[ren,e])⟩
  grind
 ·split at h
  ·rename_i c hl
   have e:AK _ _:=AD d h.1
   unfold AK at e
   obtain⟨g1,f,_⟩:=j.at hl
   simp only[ren,BK,hi.kin]
   exact⟨Ya c,g1,f,.mk' h.2 (by rw[ren,e])⟩
  grind
 grind
theorem R0(a:BF r H H'){x:AV}{y:Bool×List (List D)}(h:K9 H x=some y):Fu H' (ren r x)=some y:=by
 unfold K9 at h
 split at h
 ·simp only[ren,Fu];exact h
 ·split at h
  ·rename_i k g _ _ q es hl he
   obtain⟨g1,b,g3,_,_⟩:=a.at hl
   simp only[ren,Fu]
   grind
  ·cases h
 ·cases h
theorem Oa(q:Bool)(ds:List D):ren r (FZ q ds)=FZ q ds:=by
 unfold FZ
 split<;>simp[ren,DN]
theorem UA(a q:Bool)(ds:List D)(ok:Bool):ren r (FY a q ds ok)=FY a q ds ok:=by
 unfold FY
 cases a
 ·exact Oa q ds
 ·simp only[ren,Ab,Oa]
theorem Q6{t:TypeId}{i:TI}(hi:TIok P t i)(k:BF r H H')(l:∀b,g=some b→b=true){x y:AV}{c:Bool}(h:Iv i H x y c g a K):CH P H' t (ren r x) (ren r y) c (KR r K):=by
 unfold Iv at h
 split at h
 ·rename_i q z o es s ok vs n f j
  split at h
  ·rename_i m
   obtain⟨d,e⟩:O8 _ _ _ _ _:=AD l h.1
   simp only[CH,hi.mp _ f,R0 k j,ren]
   exact⟨UZ m,.mk' h.2 (by rw[d,e,UA])⟩
  grind
 grind
theorem Gp{x:AV}{vs:List AV}(h:Bk x=some vs)(a:∀f xs ys,x≠.fn (.yield f) xs ys):Bk (ren r x)=some (Ab r vs):=by
 cases x<;>simp only[Bk,Yd]at h<;>try (cases h;done)
 case fn f xs ys=>
  subst h
  cases f with
  |yield i=>exact absurd rfl (a i xs ys)
  |_=>simp[ren,Ab,Bk]
 all_goals(subst h;simp[ren,Ab,Bk])
theorem Gz{x:AV}(h:DZ x=true):∀f xs ys,x≠.fn (.yield f) xs ys:=by
 rintro f xs ys rfl;cases h
theorem Vk{t:TypeId}{i:TI}(hi:TIok P t i){f o n:Nat}(h:LF i f=some (o,n)):fld P t f=some (o,n):=by
 unfold LF at h
 split at h
 ·rename_i d c b a
  simp only[Yd,Y9]at h
  obtain⟨rfl,rfl⟩:=h
  exact(Ih hi a).1
 ·cases h
theorem MO{t:TypeId}{i:TI}(hi:TIok P t i):∀(ps:List (Nat×AV)) (z cs:List AV),(∀p∈ps,DZ p.2=true)→GG i z ps=some cs→A2 (fld P t) (Ab r z) (ps.map fun p=>(p.1,ren r p.2))=some (Ab r cs)
 |[],z,cs,_,h=>by
  simp only[GG,Yd]at h
  subst h
  simp[A2]
 |(f,v)::ps,z,cs,e,h=>by
  simp only[GG]at h
  split at h
  ·rename_i off size vs a g
   split at h
   ·rename_i c d
    have c:=Ya c
    have d:=Yf d
    have b:=Gp (r:=r) g (Gz (e (f,v) (YC ..)))
    simp only[YK,A2,Vk hi a,b,Bc]
    rw[Yy (by omega)]
    have:=MO hi ps _ cs (fun p a=>e p (Yw _ a)) h
    rw[←this]
    simp only[CX,Co,Ce]
   ·cases h
  ·cases h
theorem Rk{t:TypeId}{i:TI}(hi:TIok P t i){parts:List (Nat×AV)}(e:∀p∈parts,DZ p.2=true)(f:∀z,i.zer=some z→Ab r z=z)(h:Ia i parts a K):
  Cq P t (parts.map fun p=>(p.1,ren r p.2)) (KR r K):=by
 unfold Ia at h
 split at h
 ·rename_i z c b
  split at h
  ·rename_i cs d
   have:=MO (r:=r) hi _ _ _ e d
   unfold Cq
   rw[hi.zer _ b]
   rw[f z b]at this
   simp only[this]
   exact⟨hi.str c,.mk' h rfl⟩
  grind
 grind
theorem TA{x:AV}(h:x.flat=true):ren r x=x:=by cases x<;>first|(simp[ren];done)|cases h
theorem Er{z:List AV}(h:z.all AV.flat=true):Ab r z=z:=by
 induction z with
 |nil=>simp[Ab]
 |cons x z a=>
  simp only[Eo,Ye]at h
  rw[Ab,TA h.1,a h.2]
theorem MW{c x y:Operand}{ρ d:Operand→AV}{t:Bool}(e:ρ c=.d (.bool t))(b:d c=ren r (ρ c))(f:t=true→d x=ren r (ρ x))(hy:t=false→d y=ren r (ρ y))(h:tV T H (.pick c x y) ρ g a K):
  Aq P H' (.pick c x y) d (KR r K):=by
 simp only[tV,e]at h
 rw[e]at b
 simp only[ren]at b
 simp only[Aq,b]
 rw[SM]at h
 cases t
 ·exact .mk' h (by simp[hy rfl])
 ·exact .mk' h (by simp[f rfl])
theorem KX{ρ a:Operand→AV}{xs:List Operand}(h:∀x∈xs,a x=ren r (ρ x)):xs.map a=Ab r (xs.map ρ):=by
 rw[CD,CS]
 exact YW h
theorem NK{ρ a:Operand→AV}{o:Option Operand}(h:∀x,o=some x→a x=ren r (ρ x)):o.map a=(o.map ρ).map (ren r):=by
 cases o with
 |none=>rfl
 |some x=>simp[h x rfl]
theorem Nj{r:Ren}{b:Bool}{x y:AV}{a:AT}{K:AV→AT→Prop}(h:BT b x y (fun v=>K v a)):BT b (ren r x) (ren r y) (KR r K):=by
 unfold BT at h
 split at h
 ·simp only[ren,BT];exact .mk' h rfl
 grind
theorem Tu(w:AG P T)(D:BF r H H')(B:∀b,g=some b→b=true){op:Op}{ρ A:Operand→AV}(Z:∀x∈op.operands,A x=ren r (ρ x))(h:tV T H op ρ g a K):Aq P H' op A (KR r K):=by
 have get:∀{x:Operand},x∈op.operands→A x=ren r (ρ x):=fun l=>Z _ l
 cases op<;>simp only[tV]at h<;>try exact h.elim
 case move x=>exact .mk' h (get (by simp[Op.operands]))
 case assign x=>exact .mk' h (get (by simp[Op.operands]))
 case pick c x y=>
  split at h
  ·rename_i t m
   exact MW (a:=a) (g:=g) (T:=T) (H:=H) m (get (by simp[Op.operands])) (fun _=>get (by simp[Op.operands])) (fun _=>get (by simp[Op.operands])) (by simp only[tV,m];exact h)
  ·grind
 case load t x=>
  split at h
  ·rename_i i hi;simp only[Aq];rw[get (x:=x) (by simp[Op.operands])];exact J7 (w _ _ hi) D B h
  ·grind
 case fieldAddr t x f=>
  split at h
  ·rename_i i hi;simp only[Aq];rw[get (x:=x) (by simp[Op.operands])];exact QE (w _ _ hi) D h
  ·grind
 case field t x f=>
  split at h
  ·rename_i i hi;simp only[Aq];rw[get (x:=x) (by simp[Op.operands])];exact QR (w _ _ hi) h
  ·grind
 case indexAddr t x j=>
  split at h
  ·rename_i i hi;simp only[Aq];rw[get (x:=x) (by simp[Op.operands]),get (x:=j) (by simp[Op.operands])];exact QF (w _ _ hi) D B h
  ·grind
 case index t x j=>
  split at h
  ·rename_i i hi;simp only[Aq];rw[get (x:=x) (by simp[Op.operands]),get (x:=j) (by simp[Op.operands])];exact Ri (w _ _ hi) B h
  ·grind
 case makeInterface t x=>
  split at h
  case h_2=>exact h.elim
  rename_i i hi
  have F:(i.str||i.elm.isSome)=true→Ef P t=true:=OA (w _ _ hi)
  simp only[Aq]
  rw[get (x:=x) (by simp[Op.operands])]
  split at h
  ·rename_i xs E l
   rw[l]
   simp only[ren]
   split at h
   case h_2=>exact h.elim
   rename_i ds O
   have e:=H4 O
   subst e
   rw[DN,O]
   exact⟨F E,.mk' h rfl⟩
  ·rename_i y E l
   rw[l]
   simp only[ren]
   exact⟨F E,.mk' h rfl⟩
  ·exact h.elim
 case typeAssert x u t ok=>
  split at h
  case h_2=>exact h.elim
  rename_i i hi
  have F:(i.str||i.elm.isSome)=true→Ef P t=true:=OA (w _ _ hi)
  simp only[Aq]
  rw[get (x:=x) (by simp[Op.operands])]
  split at h
  case h_2=>exact h.elim
  rename_i u ds q E l
  rw[l]
  simp only[ren]
  split at h
  case h_2=>exact h.elim
  rename_i v X G
  rw[G]
  have I:ren r v=v:=by
   cases q with
   |true=>cases G;simp only[ren,DN]
   |false=>
    match ds,G with
    |[d],G=>cases G;simp only[ren]
  refine⟨F E,Ya X,.mk' h ?_⟩
  cases ok with
  |true=>simp only[cond,ren,Ab,I]
  |false=>exact I.symm
 case extract x j=>
  simp only[Aq]
  rw[get (x:=x) (by simp[Op.operands])]
  split at h
  ·rename_i vs l
   rw[l]
   simp only[ren,Dl]
   rw[B1]at h
   split at h
   ·rename_i y hy;rw[hy];exact .mk' h rfl
   grind
  ·grind
 case binOp o t x y u=>
  split at h
  ·rename_i i hi;simp only[Aq];rw[get (x:=x) (by simp[Op.operands]),get (x:=y) (by simp[Op.operands])];exact Rq (w _ _ hi) D B h
  ·grind
 case unOp o t x=>simp only[Aq];rw[get (x:=x) (by simp[Op.operands])];exact Sh B h
 case nilCheck x=>
  split at h
  ·rename_i k q off l
   split at h
   ·rename_i hl
    simp only[Aq]
    rw[get (x:=x) (by simp[Op.operands]),l]
    obtain⟨g1,Q,_,_,_⟩:=D.at hl
    simp only[ren,DW]
    exact⟨g1.symm▸rfl,Q,.mk' h (by simp[ren])⟩
   grind
  ·rename_i cs off l
   simp only[Aq]
   rw[get (x:=x) (by simp[Op.operands]),l]
   simp only[ren,DW]
   exact .mk' h (by simp[ren])
  ·grind
 case convert s d x=>
  split at h
  ·rename_i i j hi V;simp only[Aq];rw[get (x:=x) (by simp[Op.operands])];exact Q7 (w _ _ hi) (w _ _ V) B h
  ·grind
 case makeFunc fn first C=>
  have n:first.toList.map A=Ab r (first.toList.map ρ):=KX fun x l=>get (by simp only[Op.operands,Gb];exact .inl (by simpa using l))
  have J:C.toList.map A=Ab r (C.toList.map ρ):=KX fun x l=>get (by simp only[Op.operands,Gb];exact .inr (by simpa using l))
  simp only[Aq]
  rw[n,J]
  split at h
  ·grind
  ·rename_i M
   refine .mk' h ?_
   cases fn<;>first|exact absurd rfl (M _)|simp[ren]
 case slice t x lo hi mx=>
  split at h
  ·rename_i i L
   simp only[Aq]
   rw[get (x:=x) (by simp[Op.operands]),NK (o:=lo) (fun y hy=>get (by subst hy;simp[Op.operands])),NK (o:=hi) (fun y hy=>get (by subst hy;simp[Op.operands]))]
   exact Rg (w _ _ L) D B h
  ·grind
 case build t parts=>
  split at h
  ·rename_i i hi F
   simp only[Aq]
   have e:(parts.toList.map fun p=>(p.1,A p.2))=(parts.toList.map fun p=>(p.1,ρ p.2)).map fun p=>(p.1,ren r p.2):=by
    rw[CS]
    refine YW fun p N=>?_
    simp only[Function.comp]
    rw[get (x:=p.2) (by simp only[Op.operands,Gc,YD];exact⟨p,N,rfl⟩)]
   rw[e]
   refine Rk (w _ _ hi) (fun p N=>?_) (fun z Y=>Er ((w _ _ hi).flt z Y)) h
   obtain⟨q,hq,rfl⟩:=YD.1 N
   grind
  ·grind
 case lookup t x y ck=>
  split at h
  ·rename_i i hi;simp only[Aq];rw[get (x:=x) (by simp[Op.operands]),get (x:=y) (by simp[Op.operands])];exact Q6 (w _ _ hi) D B h
  ·grind
 case call c=>
  split at h
  ·rename_i x t m l W
   split at h
   ·rename_i i hi
    have n:c.args=#[x]:=YS (by simpa using l)
    have J:c.argTypes=#[t]:=YS (by simpa using W)
    simp only[Aq,m,n,J]
    show 1=1∧BK P H' t (A x) (KR r K)
    rw[get (x:=x) (by simp[Op.operands,Call.operands,m,n])]
    exact⟨rfl,RP (w _ _ hi) D B h⟩
   grind
  ·rename_i x y m l
   have n:c.args=#[x,y]:=YS (by simpa using l)
   simp only[Aq,m,n]
   show BT false (A x) (A y) (KR r K)
   rw[get (x:=x) (by simp[Op.operands,Call.operands,m,n]),get (x:=y) (by simp[Op.operands,Call.operands,m,n])]
   exact Nj h
  ·rename_i x y m l
   have n:c.args=#[x,y]:=YS (by simpa using l)
   simp only[Aq,m,n]
   show BT true (A x) (A y) (KR r K)
   rw[get (x:=x) (by simp[Op.operands,Call.operands,m,n]),get (x:=y) (by simp[Op.operands,Call.operands,m,n])]
   exact Nj h
  ·rename_i x y z m l
   have n:c.args=#[x,y,z]:=YS (by simpa using l)
   simp only[Aq,m,n]
   show C4 true (A x) (A y) (A z) (KR r K)
   rw[get (x:=x) (by simp[Op.operands,Call.operands,m,n]),get (x:=y) (by simp[Op.operands,Call.operands,m,n]),get (x:=z) (by simp[Op.operands,Call.operands,m,n])]
   unfold C4 at h
   split at h
   ·rename_i R S U
    rw[R,S,U]
    simp only[ren,C4];exact .mk' h rfl
   grind
  ·grind
end
abbrev Bg:=List (Nat×Bool)
abbrev AW:=List (Nat×Bg)
def lk:AW→Nat→Bg
 |[],_=>[]
 |(i,c)::r,j=>match Nat.beq i j with|true=>c|false=>lk r j
def Ha(t:Bool):Bool→Bool
 |true=>t
 |false=>!t
theorem Kc{t b:Bool}:Ha t b=true↔t=b:=by cases t<;>cases b<;>simp[Ha]
def EE:Bg→Bg→Bool
 |[],[]=>true
 |(i,a)::r,(j,b)::q=>Nat.beq i j&&Ha a b&&EE r q
 |_,_=>false
theorem KJ:∀{a b:Bg},EE a b=true→a=b
 |[],[],_=>rfl
 |(i,a)::r,(j,b)::q,h=>by
  simp only[EE,Ye]at h
  rw[Ya h.1.1,Kc.1 h.1.2,KJ h.2]
 |[],_::_,h=>by simp[EE]at h
 |_::_,[],h=>by simp[EE]at h
def IG(a:Bg):Bg→Bool
 |[]=>EE a []
 |q::b=>EE a (q::b)||IG a b
theorem NN{a:Bg}:∀{b:Bg},IG a b=true→∀q∈a,q∈b
 |[],h,q,c=>by rw[KJ h]at c;exact c
 |p::b,h,q,c=>by
  simp only[IG,YE]at h
  rcases h with h|h
  ·rw[KJ h]at c;exact c
  ·exact Yw _ (NN h q c)
def Bn(s:Nat→AV)(c:Bg):Prop:=∀q∈c,s q.1=.d (.bool q.2)
def CY(s:Nat→AV):Bg→Option Bool
 |[]=>some true
 |[(d,b)]=>match s d with|.d (.bool t)=>some (Ha t b)|_=>none
 |(d,b)::r=>match s d,CY s r with|.d (.bool t),some c=>some (c&&Ha t b)|_,_=>none
theorem E1{s:Nat→AV}:∀{c:Bg} {g:Bool},CY s c=some g→(g=true↔Bn s c)
 |[],g,h=>by simp only[CY,Yd]at h;subst h;simp[Bn]
 |[(d,b)],g,h=>by
  simp only[CY]at h
  split at h
  ·rename_i t f
   simp only[Yd]at h
   subst h
   rw[Kc]
   simp[Bn,f]
  ·cases h
 |(d,b)::q::r,g,h=>by
  simp only[CY]at h
  split at h
  ·rename_i t c f i
   simp only[Yd]at h
   subst h
   have j:=E1 i
   rw[Ye,j,Kc]
   constructor
   ·rintro⟨e,rfl⟩ p a
    rcases YG.1 a with rfl|a
    ·exact f
    ·exact e p a
   ·intro e
    refine⟨fun p a=>e p (Yw _ a),?_⟩
    have:=e (d,b) (YC ..)
    grind
  ·cases h
def Fo(e:Nat)(c:Bg):Bool:=c.all fun q=>!Nat.beq q.1 e
def fresh(e:Nat)(env:AW):Bool:=env.all fun p=>Fo e p.2
theorem NJ{s:Nat→AV}{e:Nat}{v:AV}{c:Bg}(h:Fo e c=true):Bn (upd s e v) c↔Bn s c:=by
 have key:∀q∈c,upd s e v q.1=s q.1:=fun q a=>by
  have:=Yo.1 h q a
  unfold upd
  rw[Yy]
  intro he
  subst he
  simp at this
 constructor
 ·exact fun h q a=>(key q a)▸h q a
 ·exact fun h q a=>(key q a).trans (h q a)
theorem Nz{e:Nat}:∀{env:AW},fresh e env=true→∀j,Fo e (lk env j)=true
 |[],_,j=>rfl
 |(i,c)::r,h,j=>by
  simp only[fresh,Eo,Ye]at h
  simp only[lk]
  split
  ·exact h.1
  ·exact Nz h.2 j
theorem KV{env:AW}{e:Nat}{c:Bg}(j:Nat):lk ((e,c)::env) j=if j=e then c else lk env j:=by
 simp only[lk]
 by_cases h:j=e
 ·subst h;simp
 ·rw[Yy h]
  split
  ·rename_i a;exact absurd (Ya a).symm h
  ·rfl
def DB(env:AW)(c:Bg):Operand→Bool
 |.tmp t=>IG (lk env t) c
 |_=>true
def Be(env:AW)(c:Bg):Op→Bool
 |.pick (.tmp d) x y=>DB env c (.tmp d)&&DB env ((d,true)::c) x&&DB env ((d,false)::c) y
 |op=>op.operands.toList.all (DB env c)
structure RenOk (r:Ren) (l outs:Nat):Prop where
 own:∀d,r.κ (1,d)=(l+1,d)
 out:∀i,i<outs→(r.κ (0,i)).1≤l
 inj:∀i j,i<outs→j<outs→r.κ (0,i)=r.κ (0,j)→i=j
 no:∀k,r.no k→∃i,i<outs∧r.κ (0,i)=k
structure RG (r:Ren) (l outs:Nat) (env:AW) (τ σ:St):Prop where
 s:∀j,(Bn τ.s (lk env j)→σ.s j=ren r (τ.s j))∧(¬Bn τ.s (lk env j)→σ.s j=.tup [])
 h:BF r τ.H σ.H
 g:∀d,(σ.H (l+1,d)).g=r.γ (1,d)+(τ.H (1,d)).g
 go:∀i,i<outs→(σ.H (r.κ (0,i))).g=r.γ (0,i)+(τ.H (0,i)).g
 k:∀k,(τ.H k).live=true→k.1=1∨(k.1=0∧k.2<outs)
 o:∀k:Aa,k.1≤l→¬r.no k→σ.H k=r.H0 k
def Ez(P:Program)(l:Nat)(r:Ren)(f:FuncId)(xs:List AV)(c:List (Aa×Blk))(x:AV):Prop:=
 ∀a,(∀p∈c,p.2.live=true→a (r.κ p.1)=Ah r p.1 p.2)→(∀k:Aa,k.1≤l→¬r.no k→a k=r.H0 k)→ZaR P f (l+1) (Ab r xs) a (fun y b=>y=ren r x∧b=a)
def GH(P:Program)(l:Nat)(r:Ren)(i:Nat)(xs:List AV)(d:List (Aa×Blk))(x:AV):Prop:=
 ∃f first a,r.θ i=.fn (.func f) first a∧∀b,(∀p∈d,p.2.live=true→b (r.κ p.1)=Ah r p.1 p.2)→(∀k:Aa,k.1≤l→¬r.no k→b k=r.H0 k)→ZaR P f (l+1) (first++Ab r xs++a) b (fun y c=>y=ren r x∧c=b)
def Iw(P:Program)(l:Nat)(r:Ren)(H:Hp)(f:AV)(xs:List AV)(g:Option Bool)(a:AT)(K:AV→AT→Prop):Prop:=
 match f,a with
 |.fn (.func i) first b,.call x ks a=>Az g (Ez P l r i (first++xs++b) (ks.map fun k=>(k,H k)) x)∧K x a
 |.fn (.yield i) _ _,.call x ks a=>Az g (GH P l r i xs (ks.map fun k=>(k,H k)) x)∧K x a
 |_,_=>False
def IM(T:Nat→Option TI)(τ:St)(t:TypeId)(len:Nat)(parts:List (Nat×Operand))(a:AT)(K:AV→AT→Prop):Prop:=
 match T t with
 |some i=>(match i.elm with
  |some (e,sz)=>(match Nat.ble 1 sz,len with
   |true,0=>(match parts with|[]=>K .e0 a|_=>False)
   |true,len+1=>(match T e,Nat.ble ((len+1)*sz) 16777216 with
    |some j,true=>(match j.zer with
     |some z=>(match Nat.beq z.length sz,Cu sz 0 (parts.map fun p=>(p.1,ev τ.s p.2))with
      |true,some es=>(match Nat.beq es.length (len+1)with|true=>K (.d (.list es)) a|false=>False)
      |_,_=>False)
     |none=>False)
    |_,_=>False)
   |_,_=>False)
  |none=>False)
 |none=>False
def pV(P:Program)(T:Nat→Option TI)(l:Nat)(r:Ren)(τ:St)(op:Op)(g:Option Bool)(a:AT)(K:AV→AT→Prop):Prop:=
 match op with
 |.call c=>match c.callee with
  |.value f=>Iw P l r τ.H (ev τ.s f) (c.args.toList.map (ev τ.s)) g a K
  |_=>tV T τ.H op (ev τ.s) g a K
 |.buildSlice t len parts=>IM T τ t len parts.toList a K
 |op=>tV T τ.H op (ev τ.s) g a K
def Cj(n d:Nat)(K:St→AT→Prop)(τ:St)(v:AV)(a:AT):Prop:=
 match Nat.ble (d+1) n with
 |true=>K ⟨upd τ.s d v,τ.H⟩ a
 |false=>False
section
variable {P:Program} {T:Nat→Option TI} {r:Ren} {l n outs:Nat} {env:AW} {τ σ:St} {g:Option Bool} {a:AT} {c:Bg}
theorem UX(v:Value):ren r (cv v)=cv v:=by unfold cv;split<;>simp[ren]
theorem Eu(h:RG r l outs env τ σ)(hs:Bn τ.s c){x:Operand}(b:DB env c x=true):ev σ.s x=ren r (ev τ.s x):=by
 cases x with
 |tmp t=>exact(h.s t).1 fun q a=>hs q (NN b q a)
 |const v=>exact(UX v).symm
 |global g=>simp[ev,ren]
 |func f=>simp[ev,ren,Ab]
theorem CV(h:RG r l outs env τ σ)(hs:Bn τ.s c){op:Op}(a:op.operands.toList.all (DB env c)=true):∀x∈op.operands,ev σ.s x=ren r (ev τ.s x):=
 fun x hm=>Eu h hs (Yo.1 a x (by simpa using hm))
theorem OT(u:AG P T)(h:RG r l outs env τ σ)(hs:Bn τ.s c)(v:∀b,g=some b→b=true){op:Op}(i:Be env c op=true){K:AV→AT→Prop}(j:tV T τ.H op (ev τ.s) g a K):
  Aq P σ.H op (ev σ.s) (KR r K):=by
 unfold Be at i
 split at i
 ·rename_i d x y
  simp only[Ye]at i
  obtain⟨⟨o,p⟩,s⟩:=i
  have f:=j
  simp only[tV]at f
  split at f
  ·rename_i t m
   have n:=Eu h hs o
   refine MW (T:=T) (H:=τ.H) (g:=g) (a:=a) m n (fun e=>Eu h (c:=(d,true)::c) ?_ p) (fun e=>Eu h (c:=(d,false)::c) ?_ s) j
   all_goals
    subst e
    intro q k
    rcases YG.1 k with rfl|k
    ·exact m
    ·exact hs q k
  grind
 ·exact Tu u h.h v (CV h hs i) j
theorem Ki(h:RG r l outs env τ σ)(hs:Bn τ.s c)(t:∀b,g=some b→b=true){cl:Call}{f:Operand}(q:cl.callee=.value f)(m:Be env c (.call cl)=true){K:AV→AT→Prop}
  (e:Iw P l r τ.H (ev τ.s f) (cl.args.toList.map (ev τ.s)) g a K):
  ∃i first d x j,ev σ.s f=.fn (.func i) first d∧ZaR P i (l+1) (first++cl.args.toList.map (ev σ.s)++d) σ.H (fun y u=>y=ren r x∧u=σ.H)∧K x j:=by
 have m:(Op.call cl).operands.toList.all (DB env c)=true:=m
 have s:=CV h hs m f (by simp[Op.operands,Call.operands,q])
 have n:cl.args.toList.map (ev σ.s)=Ab r (cl.args.toList.map (ev τ.s)):=KX fun x hm=>CV h hs m x (by simp only[Op.operands,Call.operands,q,Gb];exact .inr (by simpa using hm))
 have o:∀ks:List Aa,∀p∈ks.map fun k=>(k,τ.H k),p.2.live=true→σ.H (r.κ p.1)=Ah r p.1 p.2:=fun ks p e hl=>by
  obtain⟨k,B,rfl⟩:=YD.1 e
  exact h.h k hl
 unfold Iw at e
 split at e
 ·rename_i i first d x ks j he
  have w:Ez _ _ _ _ _ _ _:=AD t e.1
  refine⟨i,Ab r first,Ab r d,x,j,by rw[s,he];simp[ren],?_,e.2⟩
  rw[n,←CX,←CX]
  exact w σ.H (o ks) h.o
 ·rename_i i xs ys x ks j he
  obtain⟨v,first,d,z,A⟩:GH _ _ _ _ _ _ _:=AD t e.1
  refine⟨v,first,d,x,j,by rw[s,he];simp[ren,z],?_,e.2⟩
  rw[n]
  exact A σ.H (o ks) h.o
 grind
theorem RG.put(h:RG r l outs env τ σ){e:Nat}{ch:Bg}(b:fresh e env=true)(c:Fo e ch=true){v:AV}{y:AV}(hy:Bn τ.s ch→y=ren r v)(d:¬Bn τ.s ch→y=.tup []):
  RG r l outs ((e,ch)::env) ⟨upd τ.s e v,τ.H⟩ ⟨upd σ.s e y,σ.H⟩:=by
 refine⟨fun j=>?_,h.h,h.g,h.go,h.k,h.o⟩
 simp only
 rw[KV]
 by_cases a:j=e
 ·subst a
  rw[Yt rfl,NJ c]
  simp only[upd,CA]
  grind
 ·rw[Yy a,NJ (Nz b j)]
  simp only[upd,Yy a]
  exact h.s j
end
section
variable {P:Program} {l n:Nat} {H:Hp} {m:Mu} {S:Nat→Prop} {w w':World} {s:Nat→AV} {a:Act}
theorem Ok.allocO(h:Ok l H m S w)(k:Aa)(O:k.1≤l)(b:Blk)(J:b.e.isO=true)(u:b.cells=[])(N:(H k).g<b.g)(o:Obj)(D:w'.heap=w.heap.push o)
  (I:D3 w' S w.heap.size b.e) (E:w'.os=w.os) (F:w'.tape=w.tape) (G:w'.output=w.output):
  Ok l (updH H k b) (Ax m k ⟨w.heap.size,0,0⟩) S w'∧Ext l H m S w (updH H k b) (Ax m k ⟨w.heap.size,0,0⟩) S w':=by
 have d:∀i,i<w.heap.size→w'.heap[i]?=w.heap[i]?:=fun i hi=>by rw[D,ER,Yy (by omega)]
 have j:Ext l H m S w (updH H k b) (Ax m k ⟨w.heap.size,0,0⟩) S w':=by
  refine⟨fun _ h=>h,fun i hi=>d i (h.sub i hi),fun q a=>?_,fun q a y hl=>?_,E,F,G,by rw[D];simp⟩
  ·by_cases e:q=k
   ·subst e;rw[Ai];omega
   ·rw[Af _ _ e];exact Yc _
  ·by_cases e:q=k
   ·subst e;rw[Ai]at y;omega
   ·rw[Af _ _ e]at hl⊢;rw[Ak _ _ e];exact⟨hl,rfl,rfl⟩
 have B:∀q:Aa,q.1≤l→(H q).live=true→(m q).cap≠0→(m q).b<w.heap.size:=fun q a hl n=>by
  obtain⟨C,t,_⟩:=h.blk q a hl n
  grind
 have A:∀q:Aa,q.1≤l→(H q).live=true→(H q).e.isO=true→(m q).b<w.heap.size:=fun q a hl n=>by
  obtain⟨C,t,_⟩:=(h.mp.o q a hl).at n
  grind
 refine⟨⟨fun i hi=>?_,fun q a hl c=>?_,fun q a hl c=>?_,fun q s a r hl f c g heq=>?_,fun q a hl c=>?_,
  ⟨fun q a hl=>?_,fun q a hl he=>?_,fun q s a r hl f he p heq=>?_⟩⟩,j⟩
 ·have:=h.sub i hi;rw[D];simp;omega
 ·by_cases e:q=k
  ·subst e;rw[Ai];exact u
  ·rw[Af _ _ e]at hl⊢;rw[Ak _ _ e]at c;exact h.empty q a hl c
 ·by_cases e:q=k
  ·subst e;rw[Ao]at c;exact absurd rfl c
  ·rw[Af _ _ e]at hl;rw[Ak _ _ e]at c⊢;exact h.fresh q a hl c
 ·by_cases e:q=k
  ·subst e;rw[Ao]at c;exact absurd rfl c
  ·by_cases e':s=k
   ·subst e';rw[Ao]at g;exact absurd rfl g
   ·rw[Ak _ _ e,Ak _ _ e']at heq
    rw[Af _ _ e]at hl;rw[Af _ _ e']at f
    rw[Ak _ _ e]at c;rw[Ak _ _ e']at g
    exact h.inj q s a r hl f c g heq
 ·by_cases e:q=k
  ·subst e;rw[Ao]at c;exact absurd rfl c
  ·rw[Af _ _ e]at hl⊢
   rw[Ak _ _ e]at c⊢
   obtain⟨C,t,hs,z,M⟩:=h.blk q a hl c
   refine⟨C,by rw[d _ (B q a hl c)];exact t,hs,z,fun i x v hi L=>?_⟩
   obtain⟨g1,g2⟩:=M i x v hi L
   exact⟨g1,g2.ext j a⟩
 ·by_cases e:q=k
  ·subst e;rw[Ai,Ao];exact I
  ·rw[Af _ _ e]at hl⊢;rw[Ak _ _ e]
   exact(h.mp.o q a hl).mono (fun _ h=>h) (fun i hi=>d i (h.sub i hi)) (fun K=>d _ (A q a hl K))
 ·by_cases e:q=k
  ·subst e;rw[Ao];exact⟨⟨rfl,rfl⟩,fun hs=>by have:=h.sub _ hs;simp at this⟩
  ·rw[Af _ _ e]at hl he;rw[Ak _ _ e];exact h.mp.c q a hl he
 ·by_cases e:q=k<;>by_cases e':s=k
  ·grind
  ·subst e
   rw[Ao,Ak _ _ e']at heq
   rw[Af _ _ e']at f p
   grind
  ·subst e'
   rw[Ao,Ak _ _ e]at heq
   rw[Af _ _ e]at hl he
   grind
  ·rw[Ak _ _ e,Ak _ _ e']at heq
   rw[Af _ _ e]at hl he;rw[Af _ _ e']at f p
   exact h.mp.i q s a r hl f he p heq
theorem Ok.writeO(h:Ok l H m S w)(k:Aa)(y:k.1≤l)(hl:(H k).live=true)(t:(H k).e.isO=true)(e':EK)(n:e'.isO=true)(o:Obj)
  (F:∀b,w'.heap[b]?=if b=(m k).b then some o else w.heap[b]?) (B:w'.heap.size=w.heap.size) (K:D3 w' S (m k).b e') (G:w'.os=w.os) (I:w'.tape=w.tape) (J:w'.output=w.output):
  Ok l (updH H k {H k with e:=e' }) m S w'∧Ext l H m S w (updH H k {H k with e:=e' }) m S w':=by
 obtain⟨Q,R⟩:=h.mp.c k y hl t
 have j:Ext l H m S w (updH H k {H k with e:=e' }) m S w':=by
  refine⟨fun _ h=>h,fun b s=>?_,fun q d=>?_,fun q d T a=>?_,G,I,J,by omega⟩
  ·grind
  ·by_cases e:q=k
   ·subst e;rw[Ai];exact Yc _
   ·rw[Af _ _ e];exact Yc _
  ·by_cases e:q=k
   ·subst e;rw[Ai]at a⊢;exact⟨a,rfl,rfl⟩
   ·rw[Af _ _ e]at a⊢;exact⟨a,rfl,rfl⟩
 have f:∀q:Aa,(updH H k {H k with e:=e' } q).live=(H q).live:=fun q=>by
  by_cases e:q=k
  ·subst e;rw[Ai]
  ·rw[Af _ _ e]
 have g:∀q:Aa,(H q).e.isO=(updH H k {H k with e:=e' } q).e.isO:=fun q=>by
  by_cases e:q=k
  ·subst e;rw[Ai];exact t.trans n.symm
  ·rw[Af _ _ e]
 refine⟨⟨fun b s=>?_,fun q d a r=>?_,fun q d a r=>?_,fun q E d p a c r D heq=>?_,fun q d a r=>?_,
  ⟨fun q d a=>?_,fun q d a he=>?_,fun q E d p a c he n heq=>?_⟩⟩,j⟩
 ·rw[B];exact h.sub b s
 ·rw[f]at a
  have:=h.empty q d a r
  by_cases e:q=k
  ·subst e;rw[Ai];exact this
  ·rw[Af _ _ e];exact this
 ·rw[f]at a;exact h.fresh q d a r
 ·rw[f]at a c;exact h.inj q E d p a c r D heq
 ·rw[f]at a
  by_cases e:q=k
  ·grind
  ·rw[Af _ _ e]
   obtain⟨C,s,hs,z,N⟩:=h.blk q d a r
   have A:(m q).b≠(m k).b:=fun u=>by
    obtain⟨U,O,P⟩:=(h.mp.o k y hl).at t
    rw[u,O]at s;cases s;cases P
   refine⟨C,by rw[F,Yy A];exact s,hs,z,fun i x v hi M=>?_⟩
   obtain⟨g1,g2⟩:=N i x v hi M
   exact⟨g1,g2.ext j d⟩
 ·rw[f]at a
  by_cases e:q=k
  ·subst e;rw[Ai];exact K
  ·rw[Af _ _ e]
   refine(h.mp.o q d a).mono (fun _ h=>h) j.blk (fun L=>?_)
   rw[F,Yy (fun u=>e (h.mp.i q k d y a hl L t u))]
 ·rw[f]at a;rw[←g]at he;exact h.mp.c q d a he
 ·rw[f]at a c;rw[←g]at he n;exact h.mp.i q E d p a c he n heq
theorem MEnt.push{q:Bool}{es:List (List D)}{ents:Array MapEntry}{a:Nat}{s:ByteArray}{ds:List D}{v:Value}(h:MEnt w S q es ents a)(g:VR w S q ds v):
  MEnt w S q (es++[.str s::ds]) (ents.push {key:=.string s,val:=v,born:=a }) (a+1):=by
 have b:∀(i:Nat) (y:MapEntry),(ents.push {key:=.string s,val:=v,born:=a })[i]?=some y→(i=ents.size∧y={key:=.string s,val:=v,born:=a })∨(i≠ents.size∧ents[i]?=some y):=fun i y hy=>by
  grind
 refine⟨by simp[h.n],fun i k y z hy j e=>?_,fun i y hy=>?_,fun i e y hi hy=>?_⟩
 ·rcases b i y hy with⟨rfl,rfl⟩|⟨a1,c⟩<;>rcases b k z j with⟨rfl,rfl⟩|⟨l,f⟩
  ·rfl
  ·have:=h.clk k z f;simp only at e;omega
  ·have:=h.clk i y c;simp only at e;omega
  ·exact h.born i k y z c f e
 ·rcases b i y hy with⟨rfl,rfl⟩|⟨a1,c⟩
  ·grind
  ·exact Nat.lt_succ_of_lt (h.clk i y c)
 ·rcases b i y hy with⟨rfl,rfl⟩|⟨a1,c⟩
  ·rw[h.n,Yk (Yc _),Nat.sub_self]at hi
   cases hi
   exact⟨s,ds,rfl,rfl,g⟩
  ·have d:i<es.length:=by rw[←h.n];exact Di c
   rw[Yh d]at hi
   exact h.e i e y hi c
end
section
variable {P:Program} {l n:Nat} {B:Base} {H H':Hp} {m m':Mu} {S S':Nat→Prop} {w w':World} {s:Nat→AV} {a:Act} {K:St→Prop} {o:Oper}
def PZ(l n d:Nat)(e:EK)(x:Nat→AV)(K:St→Prop)(σ:St):Prop:=
 d<n∧K ⟨upd σ.s d (x ((σ.H (l+1,d)).g+1)),updH σ.H (l+1,d) ⟨(σ.H (l+1,d)).g+1,true,e,0,[]⟩⟩
theorem MV{w:World}{r:Nat}{d:Obj}(h:w.heap[r]?=some d)(a:Obj)(b:Nat):(ChangeMaps.setBlock w r a).heap[b]?=if b=r then some a else w.heap[b]?:=by
 have c:=Di h
 simp only[ChangeMaps.setBlock,Y7]
 grind
theorem KW{k:Aa}{g:Nat}{v:Value}(h:RepA w S H m l (.mp k g) v)(b:g=(H k).g)(hl:(H k).live=true):k.1≤l∧v=.map (some (m k).b):=by
 cases h with
 |mpL _ c _=>exact⟨c,rfl⟩
 |mpD _ _ _ _ _ a _=>rw[a b]at hl;cases hl
def IQ(z:ByteArray)(p:Nat):Int:=((Utf8.decode z p).1:Nat)
def Da(z:ByteArray)(p:Nat):Nat:=(Utf8.decode z p).2
theorem Sa{t:TypeId}{x:Operand}{d:Nat}{z:ByteArray}(q:o.op=.range t x)(e:o.dst=some d)(r:P.underlying t=some .string)(y:ev s x=.d (.str z))
  (h:PZ l n d (.s z 0) (fun g=>.ptr (l+1,d) g 0) K ⟨s,H⟩):Ba P l n B o K ⟨s,H⟩:=by
 intro a w k Q
 obtain⟨m,S,j,p,f,i,he⟩:=k.un
 have b:=Bw i x
 rw[y]at b
 have c:(execOp a.eval o).run P w=.ok (.value (.pointer (some ⟨w.heap.size,0,none⟩))) (w.alloc (.stringIter z 0)):=by
  generalize u:a.eval x=v at b
  cases b with
  |d _ _ e=>
   cases e
   simp[execOp,q,u,Instr.range,run_underlying r]
 obtain⟨A,C⟩:=j.allocO (l+1,d) (Yc _) ⟨(H (l+1,d)).g+1,true,.s z 0,0,[]⟩ rfl rfl (YV _) (.stringIter z 0) (w':=w.alloc (.stringIter z 0)) rfl (by show(w.alloc _).heap[w.heap.size]?=_;rw[KI,Yt rfl]) rfl rfl rfl
 refine BM c ?_
 rw[e]
 refine⟨_,h.2,R.step A p f i he C h.1 ?_⟩
 have:=RepA.ptrL (w:=w.alloc (.stringIter z 0)) (S:=S) (H:=updH H (l+1,d) ⟨(H (l+1,d)).g+1,true,.s z 0,0,[]⟩) (m:=Ax m (l+1,d) ⟨w.heap.size,0,0⟩) (l:=l+1) (l+1,d) 0 (Yc _) (by rw[Ai])
 rw[Ai,Ao]at this
 exact this
theorem Sl{x:Operand}{d:Nat}{k:Aa}{g:Nat}{z:ByteArray}{p:Nat}(I:o.op=.next x true)(C:o.dst=some d)(c:ev s x=.ptr k g 0)(T:g=(H k).g)(hl:(H k).live=true)(he:(H k).e=.s z p)(t:d<n)
  (J:¬p<z.size→K ⟨upd s d (.tup [.d (.bool false)]),H⟩)
  (L:p<z.size→K ⟨upd s d (.tup [.d (.bool true),.d (.int .i64 (p:Int)),.d (.int .i32 (IQ z p))]),updH H k {H k with e:=.s z (p+Da z p) }⟩):Ba P l n B o K ⟨s,H⟩:=by
 intro a w M Q
 obtain⟨m,S,A,G,r,E,u⟩:=M.un
 have j:=Bw E x
 rw[c]at j
 have h:k.1≤l+1∧a.eval x=.pointer (some ⟨(m k).b,(m k).o,none⟩):=by
  generalize a.eval x=v at j
  cases j with
  |ptrL _ _ h _=>exact⟨h,by simp⟩
  |ptrD _ _ _ _ _ _ C _=>rw[C T]at hl;cases hl
 obtain⟨h,f⟩:=h
 have q:(H k).e.isO=true:=by rw[he];rfl
 obtain⟨⟨N,F⟩,O⟩:=A.mp.c k h hl q
 rw[F]at f
 have b:=A.mp.o k h hl
 rw[he]at b
 have b:w.heap[(m k).b]?=some (.stringIter z p):=b
 by_cases D:p<z.size
 ·obtain⟨U,V⟩:=A.writeO k h hl q (.s z (p+Da z p)) rfl (.stringIter z (p+Da z p)) (w':=ChangeMaps.setBlock w (m k).b (.stringIter z (p+Da z p))) (MV b _) (by simp[ChangeMaps.setBlock]) (by show(ChangeMaps.setBlock _ _ _).heap[_]?=_;rw[MV b,Yt rfl]) rfl rfl rfl
  refine BM (v:=.tuple #[.bool true,goInt p,.int .i32 (IQ z p)]) (w':=ChangeMaps.setBlock w (m k).b (.stringIter z (p+Da z p))) ?_ ?_
  ·simp[execOp,I,f,Instr.next,getObj,setObj,Sem.run,b,D,ChangeMaps.setBlock,IQ,Da]
  ·rw[C]
   refine⟨_,L D,R.step U G r E u V t ?_⟩
   refine .tup _ _ rfl (fun i x v c y=>?_)
   match i with
   |0=>cases c;cases y;exact .d _ _ (.bool _)
   |1=>cases c;cases y;exact .d _ _ (.int _ _)
   |2=>cases c;cases y;exact .d _ _ (.int _ _)
   |i+3=>simp at c
 ·refine BM (v:=.tuple #[.bool false]) (w':=w) ?_ ?_
  ·simp[execOp,I,f,Instr.next,getObj,Sem.run,b,D]
  ·rw[C]
   exact⟨_,J D,R.step A G r E u (Ext.refl _ _ _ _ _) t (.tup _ _ rfl (fun i x v c y=>by
    match i with
    |0=>cases c;cases y;exact .d _ _ (.bool _)
    |i+1=>simp at c))⟩
end
end Go.Eng
