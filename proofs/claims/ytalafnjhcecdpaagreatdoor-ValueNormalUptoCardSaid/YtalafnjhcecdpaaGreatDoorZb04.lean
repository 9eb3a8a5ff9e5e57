import Derived.Test.YtalafnjhcecdpaaGreatDoorZb03
import Derived.Test.YtalafnjhcecdpaaGreatDoorZb01
import Derived.Maps.RangeRun
import Derived.Test.YtalafnjhcecdpaaGreatDoorZb00
namespace Go.Eng
open Go
set_option linter.all false
inductive Waits (ops:Array Oper):Nat→Nat→Prop
 |one {j i:Nat} {oj:Oper} {e:Edge} (hj:ops[j]?=some oj) (he:e∈oj.after) (hb:Region.binds .any e=true) (hi:e.on=i):Waits ops j i
 |more {j m i:Nat} {oj:Oper} {e:Edge} (hj:ops[j]?=some oj) (he:e∈oj.after) (hb:Region.binds .any e=true) (hm:e.on=m) (h:Waits ops m i):Waits ops j i
def Pu(L:List Oper)(i:Nat):Nat→Nat→Bool
 |0,_=>false
 |a+1,j=>match Bi L j with|some b=>b.after.toList.any fun e=>Region.binds .any e&&(Nat.beq e.on i||Pu L i a e.on)|none=>false
theorem aB{L:List Oper}{i:Nat}:∀(a j:Nat),Pu L i a j=true→Waits L.toArray j i
 |0,j,h=>by cases h
 |a+1,j,h=>by
  unfold Pu at h
  rw[Co]at h
  split at h
  ·rename_i f d
   obtain⟨e,he,h⟩:=YL.1 h
   rw[Yc,YG]at h
   have c:L.toArray[j]?=some f:=by simpa using d
   rcases h.2 with b|b
   ·exact .one c (by simpa using he) h.1 (Yb b)
   ·exact .more c (by simpa using he) h.1 rfl (aB a _ b)
  ·cases h
def DC(ops:Array Oper)(listed:Array Bool):Prop:=∀(m:Nat) (a:Oper),ops[m]?=some a→listed.getD m false=true→∀e∈a.after,Region.binds .any e=true→listed.getD e.on false=true
theorem DC.waits{ops:Array Oper}{listed:Array Bool}(h:DC ops listed){j i:Nat}(c:Waits ops j i):listed.getD j false=true→listed.getD i false=true:=by
 induction c with
 |one b he a hi=>intro hl;rw[←hi];exact h _ _ b hl _ he a
 |more b he a hm _ d=>intro hl;exact d (by rw[←hm];exact h _ _ b hl _ he a)
theorem ZzN{listed:Array Bool}{i:Nat}(h:listed.getD i true=false):listed.getD i false=false:=by
 grind
theorem DC.ready{ops:Array Oper}{listed:Array Bool}(h:DC ops listed){j:Nat}(f:j∈Region.ready .any ops listed):DC ops (listed.setIfInBounds j true):=by
 obtain⟨i,k,c,a⟩:=mem_ready.1 f
 intro m g hm hl e he d
 by_cases b:j=m
 ·subst b
  rw[c]at hm
  cases hm
  exact getD_set_true (a e he d)
 ·rw[getD_set_ne false b]at hl
  exact getD_set_true (h m g hm hl e he d)
theorem DC.nowait{ops:Array Oper}{listed:Array Bool}(h:DC ops listed){j i:Nat}(g:j∈Region.ready .any ops listed)(hi:listed.getD i true=false):¬Waits ops j i:=fun k=>by
 obtain⟨l,m,c,b⟩:=mem_ready.1 g
 have hi:=ZzN hi
 cases k with
 |one a he e f=>
  grind
 |more a he e hm d=>
  rw[c]at a
  cases a
  have:=h.waits d (by rw[←hm];exact b _ he e)
  grind
def B0(o:Oper):Bool:=match o.op,o.dst,o.guard with
 |.store _ _ _,none,none=>true
 |_,_,_=>false
def Hl(o:Oper):Bool:=match o.op with
 |.move _=>true
 |.binOp b _ _ _ _=>(match b with|.add=>true|.sub=>true|_=>false)
 |.indexAddr _ _ _=>true
 |.fieldAddr _ _ _=>true
 |.nilCheck _=>true
 |_=>false
def Xa(H H':Hp):Prop:=∀k,(H' k).g=(H k).g∧(H' k).live=(H k).live∧(H' k).sz=(H k).sz
def Ob(L:List Oper)(p:Oper)(k:Nat):Bool:=Cd p k||p.after.toList.any fun e=>Region.binds .any e&&(match L[e.on]? with|some a=>Cd a k|none=>false)
def Rs(L:List Oper)(o:Oper)(k:Nat):Nat→List Oper→Bool
 |_,[]=>true
 |j,p::r=>(match B0 o with|true=>Cd p k|false=>true)&&(match B0 p with|true=>Hl o||Ob L p k|false=>true)&&!Cd o j&&Rs L o k (j+1) r
def Lm(L:List Oper):Nat→List Oper→Bool
 |_,[]=>true
 |k,o::r=>Rs L o k (k+1) r&&Lm L (k+1) r
theorem pO{L:List Oper}{o:Oper}{k:Nat}:∀{l:List Oper} {j i:Nat} {p:Oper},Rs L o k j l=true→l[i]?=some p→(B0 o=true→Cd p k=true)∧(B0 p=true→Hl o=true∨Ob L p k=true)∧Cd o (j+i)=false
 |[],j,i,p,_,h=>by simp at h
 |q::r,j,i,p,a,h=>by
  simp only[Rs,Yc,YU]at a
  cases i with
  |zero=>
   grind
  |succ i=>
   have:=pO a.2 (i:=i) (by simpa using h)
   grind
theorem dx{L:List Oper}:∀{l:List Oper} {k i j:Nat} {o p:Oper},Lm L k l=true→i<j→l[i]?=some o→l[j]?=some p→(B0 o=true→Cd p (k+i)=true)∧(B0 p=true→Hl o=true∨Ob L p (k+i)=true)∧Cd o (k+j)=false
 |[],k,i,j,o,p,_,_,h,_=>by simp at h
 |q::r,k,i,j,o,p,b,c,h,a=>by
  simp only[Lm,Yc]at b
  cases j with
  |zero=>omega
  |succ j=>
   have a:r[j]?=some p:=by simpa using a
   cases i with
   |zero=>
    simp only[FZ,Yi]at h
    subst h
    have:=pO b.1 a
    grind
   |succ i=>
    have:=dx b.2 (Nat.lt_of_succ_lt_succ c) (by simpa using h) a
    grind
theorem a7{p:Oper}{k:Nat}(h:Cd p k=true)(b:∀e∈p.after,Region.binds .any e=true→e.on≠k):False:=by
 unfold Cd at h
 rw[YL]at h
 obtain⟨e,he,a⟩:=h
 simp only[Yc]at a
 exact b e (by simpa using he) a.1 (Yb a.2)
section
variable {P:Program} {l n:Nat} {B:Base} {H H':Hp} {ops:Array Oper} {ρ:Operand→AV}
theorem iq{o:Oper}{v:AV}(h:Hl o=true)(hs:Xa H H')(a:qV P l H o ρ v):qV P l H' o ρ v:=by
 obtain⟨e,op,type,pos,after,guard⟩:=o
 cases op<;>simp only[Hl]at h<;>first|(cases h;done)|skip
 case move=>exact a
 case nilCheck=>
  simp only[qV,A6]at a⊢
  unfold Ji at a⊢
  split at a
  ·rename_i k g off _
   obtain⟨b,c,d⟩:=hs k
   grind
  ·exact a
  ·grind
 case fieldAddr=>
  simp only[qV,A6]at a⊢
  unfold ER at a⊢
  split at a
  ·exact a
  ·rename_i k g off o n _ _
   obtain⟨b,c,d⟩:=hs k
   grind
  ·grind
 case indexAddr=>
  simp only[qV,A6]at a⊢
  unfold Eh at a⊢
  split at a
  ·exact a
  ·rename_i k g off len _ n _ sz _ _ _
   obtain⟨b,c,d⟩:=hs k
   grind
  ·grind
 case binOp=>
  simp only[qV,A6]at a⊢
  unfold CK at a⊢
  split at a
  ·exact a
  ·exact a
  ·grind
  ·exact a
  ·grind
  ·grind
theorem yl{o:Oper}{s:Nat→AV}{v:AV}(h:Hl o=true)(hs:Xa H H')(a:YA P l H ops o s v):YA P l H' ops o s v:=by
 unfold YA at a⊢
 split at a
 ·exact iq h hs a
 ·split at a
  ·exact⟨fun e=>iq h hs (a.1 e),a.2⟩
  grind
def GL(P:Program)(l:Nat)(o:Oper)(s:Nat→AV)(H H':Hp):Prop:=match o.op with
 |.store t a x=>match ev s a,CZ (ev s x)with
  |.ptr k g off,some vs=>g=(H k).g∧(H k).live=true∧vs.length=P.cellsOf t∧vs≠[]∧off+vs.length≤(H k).cells.length∧(k.1=l+1∨vs.all (AV.low k.1)=true)∧
    H'=updH H k {H k with cells:=(H k).cells.take off++vs++(H k).cells.drop (off+vs.length) }
  |_,_=>False
 |_=>False
theorem ui{o:Oper}{s:Nat→AV}(h:GL P l o s H H'):Xa H H':=by
 unfold GL at h
 split at h
 ·split at h
  ·obtain⟨_,_,_,_,_,_,rfl⟩:=h
   intro k
   unfold updH
   grind
  grind
 grind
theorem vj{o:Oper}{s:Nat→AV}{K:St→Prop}(hs:B0 o=true)(h:Bx P l n o K ⟨s,H⟩):∃H',GL P l o s H H'∧K ⟨s,H'⟩:=by
 obtain⟨a,op,type,pos,after,guard⟩:=o
 cases op<;>simp only[B0]at hs<;>first|(cases hs;done)|skip
 cases a with
 |some d=>cases hs
 |none=>
  simp only[Bx]at h
  simp only[GL]
  grind
theorem vt{o:Oper}{s:Nat→AV}{K:St→Prop}(hs:B0 o=true)(h:GL P l o s H H')(b:K ⟨s,H'⟩):Bx P l n o K ⟨s,H⟩:=by
 obtain⟨a,op,type,pos,after,guard⟩:=o
 cases op<;>simp only[B0]at hs<;>first|(cases hs;done)|skip
 cases a with
 |some d=>cases hs
 |none=>
  simp only[GL]at h
  simp only[Bx]
  grind
theorem ti{o:Oper}{s:Nat→AV}{d:Nat}{u:AV}(g:d∉o.looksAt ops)(h:GL P l o (upd s d u) H H'):GL P l o s H H':=by
 have b:∀x∈o.op.operands,ev (upd s d u) x=ev s x:=fun x hx=>by
  cases x with
  |tmp t=>
   have c:t≠d:=fun e=>g (by
    subst e
    exact Hy _ (List.mem_filterMap.2 ⟨.tmp t,by simpa using hx,rfl⟩))
   simp[ev,upd,c]
  |_=>rfl
 unfold GL at h⊢
 split at h
 ·rename_i t a x f
  rw[b a (by rw[f];simp[Op.operands]),b x (by rw[f];simp[Op.operands])]at h
  exact h
 grind
variable {fin:Bool} {X:St→Prop}
def Fg(P:Program)(l n:Nat)(ops:Array Oper)(fin:Bool)(X:St→Prop)(i:Nat)(K:St→Prop)(σ:St):Prop:=
 match ops[i]? with
 |none=>K σ
 |some o=>(C1 o=true∧∃d v,o.dst=some d∧d<n∧YA P l σ.H ops o σ.s v∧K ⟨upd σ.s d v,σ.H⟩)∨(B0 o=true∧∃H',GL P l o σ.s σ.H H'∧K ⟨σ.s,H'⟩)∨(fin=true∧i+1=ops.size∧X σ)
def J4(P:Program)(l n:Nat)(ops:Array Oper)(fin:Bool)(X:St→Prop)(Q:St→Prop):Nat→Array Bool→St→Prop
 |0,listed,σ=>Region.ready .any ops listed=[]∧Q σ
 |fuel+1,listed,σ=>(Region.ready .any ops listed=[]→Q σ)∧∀i∈Region.ready .any ops listed,Fg P l n ops fin X i (J4 P l n ops fin X Q fuel (listed.setIfInBounds i true)) σ
theorem Zwa{i:Nat}{K g:St→Prop}{σ:St}(h:∀s,K s→g s)(b:Fg P l n ops fin X i K σ):Fg P l n ops fin X i g σ:=by
 unfold Fg at*
 split
 ·rename_i e;rw[e]at b;exact h _ b
 ·rename_i o e
  rw[e]at b
  rcases b with⟨a,d,v,c,f,j,k⟩|⟨a,H',c,f⟩|a
  ·exact .inl ⟨a,d,v,c,f,j,h _ k⟩
  ·exact .inr (.inl ⟨a,H',c,h _ f⟩)
  ·exact .inr (.inr a)
theorem u3{i j:Nat}{c t:Oper}{d:Nat}{v:AV}(A:ops[j]?=some t)(a:c.dst=some d)(m:c.apart ops t=true)(p:B0 t=true→Hl c=true)(r:fin=true→j+1≠ops.size){K:St→Prop}{s:Nat→AV}
  (hy:YA P l H ops c s v) (h:Fg P l n ops fin X j K ⟨upd s d v,H⟩):Fg P l n ops fin X j (fun g=>YA P l g.H ops c g.s v∧K ⟨upd g.s d v,g.H⟩) ⟨s,H⟩:=by
 obtain⟨w,x,y⟩:=Oper.apart_spec m
 unfold Fg at*
 simp only[A]at*
 rcases h with⟨b,e,u,he,o,f,k⟩|⟨b,H',f,k⟩|⟨b,z,_⟩
 ·refine .inl ⟨b,e,u,he,o,rI (w d a) f,Zzs (y e he) hy,?_⟩
  have q:d≠e:=fun e'=>x d a (e'▸he)
  rw[ZvF (Ne.symm q)]
  exact k
 ·exact .inr (.inl ⟨b,H',ti (w d a) f,yl (p b) (ui f) hy,k⟩)
 ·exact absurd z (r b)
theorem Zpq{Q:St→Prop}{i:Nat}{o:Oper}{d:Nat}{v:AV}(hi:ops[i]?=some o)(hq:C1 o=true)(D:o.dst=some d)(L:d<n):
  ∀(fuel:Nat) (listed:Array Bool) (s:Nat→AV) (H:Hp),
   (∀j u,ops[j]?=some u→j≠i→listed.getD j true=false→(∀e∈u.after,Region.binds .any e=true→e.on≠i∧∀a,ops[e.on]?=some a→Cd a i=false)→¬Waits ops j i→o.apart ops u=true∧(B0 u=true→Hl o=true)∧(fin=true→j+1≠ops.size))→DC ops listed→
   (∀m a,ops[m]?=some a→Cd a i=true→listed.getD m true=false)→i∈Region.ready .any ops listed→YA P l H ops o s v→
   J4 P l n ops fin X Q fuel (listed.setIfInBounds i true) ⟨upd s d v,H⟩→J4 P l n ops fin X Q (fuel+1) listed ⟨s,H⟩:=by
 have w:∀{K:St→Prop} {s:Nat→AV} {H:Hp},YA P l H ops o s v→K ⟨upd s d v,H⟩→Fg P l n ops fin X i K ⟨s,H⟩:=fun hy hK=>by
  unfold Fg;simp only[hi];exact .inl ⟨hq,d,v,D,L,hy,hK⟩
 intro fuel
 induction fuel with
 |zero=>
  intro listed s H _ _ T t hy B
  refine⟨fun h=>(by rw[h]at t;cases t),fun j A=>?_⟩
  by_cases b:j=i
  ·subst b;exact w hy B
  ·have:=ready_mono A b
   rw[B.1]at this
   cases this
 |succ fuel ih=>
  intro listed s H f W T t hy B
  refine⟨fun h=>(by rw[h]at t;cases t),fun j A=>?_⟩
  by_cases b:j=i
  ·subst b;exact w hy B
  ·have c:=B.2 j (ready_mono A b)
   obtain⟨q,u,z,p⟩:=mem_ready.1 A
   have r:∀e∈u.after,Region.binds .any e=true→e.on≠i:=fun e he I heq=>by
    have c:=p e he I
    have C:=(mem_ready.1 t).1
    rw[heq]at c
    rcases YF i listed.size with x|x
    ·simp[x]at C c;rw[C]at c;cases c
    ·simp[Fl x]at c
   have y:∀e∈u.after,Region.binds .any e=true→e.on≠i∧∀a,ops[e.on]?=some a→Cd a i=false:=fun e he I=>⟨r e he I,fun a S=>by
    cases J:Cd a i with
    |false=>rfl
    |true=>
     have c:=p e he I
     have C:=T _ a S J
     rcases YF e.on listed.size with x|x
     ·simp[x]at C c;rw[C]at c;cases c
     ·simp[Fl x]at c⟩
   have M:=f j u z b q y (W.nowait A (mem_ready.1 t).1)
   have Z:=u3 (i:=i) z D M.1 M.2.1 M.2.2 hy c
   have g:∀k ok,ops[k]?=some ok→k≠i→(listed.setIfInBounds j true).getD k true=false→
     (∀e∈ok.after,Region.binds .any e=true→e.on≠i∧∀a,ops[e.on]?=some a→Cd a i=false)→¬Waits ops k i→o.apart ops ok=true∧(B0 ok=true→Hl o=true)∧(fin=true→k+1≠ops.size):=fun k ok hk N G O R=>by
    refine f k ok hk N ?_ O R
    by_cases E:j=k
    ·subst E;exact q
    ·rw[getD_set_ne true E]at G;exact G
   have U:∀m a,ops[m]?=some a→Cd a i=true→(listed.setIfInBounds j true).getD m true=false:=fun m a hm J=>by
    by_cases F:j=m
    ·subst F
     rw[z]at hm
     cases hm
     exact(a7 J r).elim
    ·rw[getD_set_ne true F];exact T m a hm J
   refine Zwa (fun Y V=>ih (listed.setIfInBounds j true) Y.s Y.H g (W.ready A) U (ready_mono t (Ne.symm b)) V.1 ?_) Z
   rw[fF _ _ b]
   exact V.2
theorem bm{K K0:St→Prop}{m:Nat}(p:∀k (listed:Array Bool) (s:Nat→AV) (H:Hp),k+m=ops.size→(∀j,listed.getD j true=false→k≤j)→Region.lexFrom .any ops m k listed=true→K0 ⟨s,H⟩→J4 P l n ops fin X K m listed ⟨s,H⟩)(w:fin=true→∀i,i+1<ops.size→Waits ops (ops.size-1) i)(z:∀i j N u,i<j→ops[i]?=some N→ops[j]?=some u→(B0 N=true→Cd u i=true)∧(B0 u=true→Hl N=true∨Ob ops.toList u i=true)∧Cd N j=false):
  ∀(rest:List Oper) (k:Nat) (listed:Array Bool) (s:Nat→AV) (H:Hp),rest.all (fun o=>C1 o||B0 o)=true→(∀j,listed.getD j true=false→k≤j)→(∀j,k≤j→j<ops.size→listed.getD j true=false)→
  k+rest.length+m=ops.size→DC ops listed→(∀j,j<rest.length→rest[j]?=ops[k+j]?)→Region.lexFrom .any ops (rest.length+m) k listed=true→DU P l n (ops.toList.map (·.dst)) rest K0 ⟨s,H⟩→J4 P l n ops fin X K (rest.length+m) listed ⟨s,H⟩
 |[],k,listed,s,H,_,F,_,r,_,_,C,h=>by
  simp only[GN,YQ,FY]at C r⊢
  exact p k listed s H r F C h
 |o::rest,k,listed,s,H,Z,F,hk2,r,hD,hl,C,h=>by
  have M:ops[k]?=some o:=by simpa using(hl 0 (by simp)).symm
  rw[Eg,Nat.add_right_comm]at C⊢
  simp only[Region.lexFrom,Yc]at C
  obtain⟨⟨D,hf⟩,Q⟩:=C
  have D:k∈Region.ready .any ops listed:=by simpa using D
  simp only[II,Yc,YG]at Z
  have U:∀j,(listed.setIfInBounds k true).getD j true=false→k+1≤j:=fun j E=>by
   by_cases g:k=j
   ·subst g
    exfalso
    rcases YF k listed.size with L|L
    ·simp[L]at E
    grind
   ·rw[getD_set_ne true g]at E
    grind
  have G:∀j,k+1≤j→j<ops.size→(listed.setIfInBounds k true).getD j true=false:=fun j h1 h2=>by
   rw[getD_set_ne true (by omega)]
   grind
  have hu:∀m om,ops[m]?=some om→Cd om k=true→listed.getD m true=false:=fun m om hm ho=>by
   grind
  have W:∀j,j<rest.length→rest[j]?=ops[k+1+j]?:=fun j E=>by have:=hl (j+1) (by simp;omega);simpa[YJ,NQ 1 j]using this
  have next:∀s' H',DU P l n (ops.toList.map (·.dst)) rest K0 ⟨s',H'⟩→J4 P l n ops fin X K (rest.length+m) (listed.setIfInBounds k true) ⟨s',H'⟩:=fun s' H' L=>
   bm p w z rest (k+1) _ s' H' (by simpa using Z.2) U G (by simp only[Eg]at r;omega) (hD.ready D) W Q L
  by_cases a:B0 o=true
  ·
   have y:o.guard=none:=by
    cases y:o.guard with
    |none=>rfl
    |some _=>obtain⟨O,op,type,pos,after,guard⟩:=o;simp only at y;subst y;cases op<;>cases O<;>simp[B0]at a
   have J:Bx P l n o (DU P l n (ops.toList.map (·.dst)) rest K0) ⟨s,H⟩:=by
    unfold DU at h
    simp only[y]at h
    unfold FK at h
    split at h
    ·rename_i R;simp[B0,R]at a
    ·rename_i c R;simp[B0,R]at a
    ·exact h
   obtain⟨H',hS,hK⟩:=vj a J
   refine⟨fun h=>(by rw[h]at D;cases D),fun j E=>?_⟩
   by_cases g:j=k
   ·subst g
    unfold Fg
    grind
   ·exfalso
    obtain⟨f,u,q,hall⟩:=mem_ready.1 E
    have V:=F j f
    have he:=(z k j o u (by omega) M q).1 a
    refine a7 he fun e he x heq=>?_
    grind
  ·have B:C1 o=true:=by rcases Z.1 with h|h;exact h;exact absurd h a
   have hst:∃d v,o.dst=some d∧d<n∧YA P l H ops o s v∧DU P l n (ops.toList.map (·.dst)) rest K0 ⟨upd s d v,H⟩:=by
    unfold DU at h
    unfold YA
    cases y:o.guard with
    |none=>simp only[y]at h;exact oX B h
    |some gw=>
     obtain⟨i,b⟩:=gw
     simp only[y]at h⊢
     split at h
     ·rename_i t ht
      cases t with
      |true=>
       obtain⟨d,v,h1,h2,h3,h4⟩:=oX B (h.1 rfl)
       grind
      |false=>
       grind
     grind
   obtain⟨d,v,hd,S,hy,hK⟩:=hst
   refine Zpq M B hd S (rest.length+m) listed s H (fun j u q g f I Y=>⟨Region.free_spec M hf j u q g f (fun e he x=>(I e he x).1),fun hsj=>?_,fun T A=>Y (by have:=w T k (by have:=F j f;omega);rwa [←A,Nat.add_sub_cancel]at this)⟩) hD hu D hy (next _ _ hK)
   have V:=F j f
   rcases(z k j o u (by omega) M q).2.1 hsj with h|h
   ·exact h
   ·exfalso
    unfold Ob at h
    rw[YG]at h
    rcases h with h|h
    ·exact a7 h fun e he x=>(I e he x).1
    ·obtain⟨e,he,x⟩:=YL.1 h
     rw[Yc]at x
     obtain⟨Ec,Aq⟩:=x
     split at Aq
     ·grind
     grind
theorem ZmL{i:Nat}{σ:St}{a:Act}{w:World}{K:St→Prop}{q:Act→World→Prop}{f:Exit→Act→World→Prop}(r:R l n B σ a w)
  (h:∀σ a w,R l n B σ a w→K σ→q a w) (L:fin=true→i+1=ops.size→X σ→wpOp P ops f i q a w) (A:Fg P l n ops fin X i K σ):wpOp P ops f i q a w:=by
 have z:=L
 obtain⟨s,H⟩:=σ
 unfold Fg at A
 unfold wpOp
 split
 ·grind
 ·rename_i o G
  simp only[G]at A
  rcases A with⟨C,d,v,F,g,hy,E⟩|⟨k,H',y,E⟩|⟨T,U,V⟩
  rotate_left 2
  ·have:=z T U V
   unfold wpOp at this
   simpa only[G]using this
  ·have go:qV P l H o (ev s) v→o.wp P a w q f:=fun Q=>by
    have:=vk (B:=B) C F g Q a w r f
    refine Oper.wp_mono (fun I w' ⟨D,e,x⟩=>?_) this
    grind
   unfold YA at hy
   cases c:o.guard with
   |none=>
    simp only[c]at hy
    rw[Yj (by simp[Region.wanted,c])]
    grind
   |some J=>
    obtain⟨j,b⟩:=J
    simp only[c]at hy
    split at hy
    ·rename_i t O
     have p:(yielded ops a.tmps j==some b)=t:=by
      obtain⟨m,S,W,Y,M,y,N⟩:=r.un
      exact aV y O
     cases t with
     |true=>
      rw[Yj (by simp only[Region.wanted,c];exact p)]
      grind
     |false=>
      rw[Yh (by simp only[Region.wanted,c,p];decide)]
      have:=hy.2 rfl
      subst this
      rw[F]
      exact h _ _ _ (R.undef r g) E
    grind
  ·have c:o.guard=none:=by
    cases c:o.guard with
    |none=>rfl
    |some _=>obtain⟨u,op,type,pos,after,guard⟩:=o;simp only at c;subst c;cases op<;>cases u<;>simp[B0]at k
   rw[Yj (by simp[Region.wanted,c])]
   refine .inl ?_
   have:=Kn (B:=B) (vt (n:=n) (K:=fun D=>D=⟨s,H'⟩) k y rfl) a w r f
   refine Oper.wp_mono (fun I w' ⟨D,e,x⟩=>?_) this
   grind
theorem m7{b:Exit→Act→World→Prop}{listed:Array Bool}(h:Region.ready .any ops listed=[]){a:Act}{w:World}(c:b .normal a w):∀fuel,wpAny P .any ops b fuel listed a w
 |0=>⟨h,c⟩
 |_+1=>⟨fun _=>c,fun i hi=>by rw[h]at hi;cases hi⟩
theorem ZV{Q:St→Prop}{m:Exit→Act→World→Prop}(q:∀σ a w,R l n B σ a w→Q σ→m .normal a w)(b:fin=true→∀i,i+1<ops.size→Waits ops (ops.size-1) i)(y:fin=true→∀σ a w,R l n B σ a w→X σ→∀o,ops[ops.size-1]?=some o→wpList P ops m [o] a w):
  ∀(fuel:Nat) (listed:Array Bool) (σ:St) (a:Act) (w:World),DC ops listed→R l n B σ a w→J4 P l n ops fin X Q fuel listed σ→wpAny P .any ops m fuel listed a w
 |0,_,_,_,_,_,d,h=>⟨h.1,q _ _ _ d h.2⟩
 |fuel+1,listed,σ,a,w,x,d,h=>⟨fun u=>q _ _ _ d (h.1 u),fun i hi=>ZmL d (fun s' t w' r D=>ZV q b y fuel _ s' t w' (x.ready hi) r D) (fun C J H=>by
  obtain⟨u,o,A,z⟩:=mem_ready.1 hi
  have e:ops.size-1=i:=by omega
  have hw:=y C σ a w d H o (by rw[e];exact A)
  have g:Region.ready .any ops (listed.setIfInBounds i true)=[]:=by
   refine List.eq_nil_iff_forall_not_mem.2 fun j E=>?_
   obtain⟨k,I,s,_⟩:=mem_ready.1 E
   have F:j<ops.size:=(YZ.1 s).1
   by_cases f:i=j
   ·subst f
    rcases YF i listed.size with p|p
    ·simp[p]at k
    ·simp[Fl p]at k
   ·rw[getD_set_ne true f]at k
    have v:=b C j (by omega)
    rw[e]at v
    exact x.nowait hi k v
  unfold wpOp
  simp only[A]
  unfold wpList at hw
  split
  ·rename_i c
   rw[Yj c]at hw
   exact hw.imp (Oper.wp_mono fun t w' G=>m7 g G _) id
  ·rename_i c
   rw[Yh c]at hw
   exact m7 g hw _) (h.2 i hi)⟩
theorem DC.none(n:Nat):DC ops (Array.replicate n false):=fun m b _ h=>by
 rw[Yz]at h
 rcases YF m n with a|a
 ·simp[a]at h
 ·simp[Nat.not_lt.2 a]at h
theorem ZoW{id:Nat}{ops:List Oper}{σ:St}{Q:Exit→St→Prop}(hm:P.follows .mixedOrders=true)(c:Region.lexB .any ops.toArray=true)(C:ops.all (fun o=>C1 o||B0 o)=true)(hs:Lm ops 0 ops=true)
  (h:DU P l n (ops.map (·.dst)) ops (Q .normal) σ):BI P l n B (.region id ops.toArray true) Q σ:=by
 intro a w x
 obtain⟨s,H⟩:=σ
 simp only[Region.lexB,Yc]at c
 have u:=bm (P:=P) (l:=l) (n:=n) (ops:=ops.toArray) (K:=Q .normal) (K0:=Q .normal) (m:=0) (fin:=false) (X:=fun _=>False) (fun k listed s H _ _ c h=>⟨by simpa[Region.lexFrom]using c,h⟩) (fun e=>by cases e) (fun i j E F p hi z=>by
   have:=dx hs p (by simpa using hi) (by simpa using z)
   simpa using this) ops 0 (Array.replicate ops.toArray.size false) s H C (fun _ _=>Cj _) (fun j _ h=>by simp at h;simp[h]) (by simp) (DC.none _) (by simp) (by simpa using c.2) (by simpa using h)
 have d:R l n B ⟨s,H⟩ a {w with drawn:=w.drawn+1 }:=by
  obtain⟨m,S,v,A,f,y,g⟩:=x.un
  obtain⟨r,t⟩:=v.drew (w':={w with drawn:=w.drawn+1 }) rfl rfl rfl rfl
  exact R.keep r A f y g t
 refine wp_region_any hm (ZV (Q:=Q .normal) (fin:=false) (X:=fun _=>False) (fun G D w' b q=>⟨_,q,b⟩) (fun e=>by cases e) (fun e=>by cases e) _ _ _ a _ (DC.none _) d (by simpa using u))
theorem Zsl{id:Nat}{L:List Oper}{o:Oper}{σ:St}{QQ:Exit→Act→World→Prop}{X:St→Prop}(hm:P.follows .mixedOrders=true)(c:Region.lexB .any (L++[o]).toArray=true)(J:L.all (fun o=>C1 o||B0 o)=true)(hs:Lm (L++[o]) 0 (L++[o])=true)
  (M:∀i,i<L.length→Waits (L++[o]).toArray L.length i) (h:DU P l n ((L++[o]).map (·.dst)) L X σ) (G:∀σ a w,R l n B σ a w→X σ→wpList P (L++[o]).toArray QQ [o] a w) {a:Act} {w:World} (g:R l n B σ a w):(Code.region id (L++[o]).toArray true).wp P QQ a w:=by
 obtain⟨s,H⟩:=σ
 simp only[Region.lexB,Yc]at c
 have b:true=true→∀i,i+1<(L++[o]).toArray.size→Waits (L++[o]).toArray ((L++[o]).toArray.size-1) i:=fun _ i hi=>by
  have:=M i (by simpa using hi)
  simpa using this
 have D:=bm (P:=P) (l:=l) (n:=n) (ops:=(L++[o]).toArray) (K:=fun _=>False) (K0:=X) (m:=1) (fin:=true) (X:=X) (fun k listed s H U hl c h=>by
   simp only[Region.lexFrom,Yc]at c
   have C:k∈Region.ready .any (L++[o]).toArray listed:=by simpa using c.1.1
   refine⟨fun f=>(by rw[f]at C;cases C),fun i hi=>?_⟩
   obtain⟨f,O,d,_⟩:=mem_ready.1 hi
   have y:=hl i f
   have z:i<(L++[o]).toArray.size:=(YZ.1 d).1
   unfold Fg
   simp only[d]
   refine .inr (.inr ?_)
   exact And.intro (by first|rfl|trivial) (And.intro (by omega) h)) b (fun i j O V t hi u=>by
   have:=dx hs t (by simpa using hi) (by simpa using u)
   simpa using this) L 0 (Array.replicate (L++[o]).toArray.size false) s H J (fun _ _=>Cj _) (fun j _ h=>by simp at h;simp[h]) (by simp) (DC.none _) (fun j u=>by simp[Ys u]) (by simpa using c.2) (by simpa using h)
 have p:R l n B ⟨s,H⟩ a {w with drawn:=w.drawn+1 }:=by
  obtain⟨m,S,E,I,q,F,r⟩:=g.un
  obtain⟨y,z⟩:=E.drew (w':={w with drawn:=w.drawn+1 }) rfl rfl rfl rfl
  exact R.keep y I q F r z
 refine wp_region_any hm (ZV (Q:=fun _=>False) (fin:=true) (X:=X) (fun W T w' A x=>x.elim) b (fun _ σ a w g hx N v=>?_) _ _ _ a _ (DC.none _) p (by simpa using D))
 have e:N=o:=by simpa using v.symm
 subst e
 exact G σ a w g hx
end
end Go.Eng
namespace Go.Eng
set_option linter.all false
open Go Go.RowKit
section
variable {P:Program} {T:Nat→Option TI} {r:Ren} {H H':Hp} {g:Option Bool} {a:AT} {K:AV→AT→Prop}
def KR(r:Ren)(K:AV→AT→Prop)(y:AV):Prop:=∃v a,y=ren r v∧K v a
theorem KR.mk{v:AV}{a:AT}(h:K v a):KR r K (ren r v):=⟨v,a,rfl,h⟩
theorem KR.mk'{v y:AV}{a:AT}(h:K v a)(e:y=ren r v):KR r K y:=⟨v,a,e,h⟩
theorem qZ{t:TypeId}{i:TI}(hi:TIok P t i)(h:(i.str||i.elm.isSome)=true):JH P t=true:=by
 rw[YG]at h
 unfold JH
 rcases h with h|h
 ·have:=hi.str h
  unfold LZ at this
  split at this
  ·rename_i a _;rw[a]
  ·cases this
 ·obtain⟨e,he⟩:=Fk.1 h
  obtain⟨b,c⟩:=e
  have:=(ES (hi.elm _ he)).1
  rw[this]
theorem aD{t:TypeId}{i:TI}(hi:TIok P t i)(y:Dx r H H')(p:∀b,g=some b→b=true){x:AV}(h:Np i H x g a K):Et P H' t (ren r x) (KR r K):=by
 unfold Np at h
 cases x<;>simp only at h<;>try exact h.elim
 case iptr cs off=>
  simp only[ren,Et,hi.agg,hi.siz]
  split at h
  ·rename_i he
   rw[he]
   split at h
   ·rename_i c d f
    obtain⟨m,n⟩:=bg _ _ _ f
    have d:=Yg d
    rw[F2]at n
    exact⟨by omega,by omega,.mk' h (by rw[m,ren,HR])⟩
   grind
  ·rename_i he
   rw[he]
   rw[Co]at h
   simp only
   split at h
   ·rename_i c o;simp only[o];exact .mk' h rfl
   grind
 case ptr k q off=>
  simp only[ren,Et,hi.agg,hi.siz]
  split at h
  ·rename_i hl
   obtain⟨s,u,z,A,v⟩:=y.at hl
   refine⟨s,u,?_⟩
   rw[v]
   split at h
   ·split at h
    ·rename_i he
     rw[he]
     split at h
     ·rename_i c d f
      obtain⟨m,n⟩:=bg _ _ _ f
      have d:=Yg d
      rw[F2]at n
      exact⟨by omega,by rw[CF];omega,.mk' h (by rw[ren,EQ,Fw,m])⟩
     grind
    ·rename_i he
     rw[he]
     rw[Co]at h
     split at h
     ·rename_i c o;simp only[HK,o,Y2];exact .mk' h rfl
     grind
   ·split at h
    ·rename_i he
     rw[he]
     split at h
     ·rename_i c B d f
      have d:=Yg d
      have f:=Yb f
      have j:DQ _ _ _:=Bu p h.1
      unfold DQ at j
      rw[f]at j
      have w:=congrArg List.length j
      rw[YP,F2]at w
      exact⟨by omega,by rw[CF];omega,.mk' h.2 (by rw[ren,EQ,Fw,j])⟩
     grind
    ·rename_i he
     rw[he]
     split at h
     ·rename_i x
      have j:DQ _ _ _:=Bu p h.1
      unfold DQ at j
      have e:(H k).cells[off]?=some x:=by
       have:=congrArg (fun l=>l[0]?) j
       grind
      simp only[HK,e,Y2]
      exact .mk' h.2 rfl
     grind
   grind
  ·grind
theorem MR{t:TypeId}{i:TI}(hi:TIok P t i){f:Nat}{x:Nat×Nat×Bool}(h:Bi i.fld f=some x):fld P t f=some (x.1,x.2.1)∧Mg P t f=some x:=by
 rw[Co]at h;exact hi.fld f x h
theorem zN{t:TypeId}{i:TI}(hi:TIok P t i)(j:Dx r H H'){f:Nat}{x:AV}(h:SY i H f x a K):ER P H' t f (ren r x) (KR r K):=by
 unfold SY at h
 split at h
 ·rename_i o n b k
  have e:=(MR hi k).1
  split at h
  ·rename_i c
   have c:=Yg c
   unfold ER
   rw[e]
   split at h
   ·simp only[ren];exact⟨by omega,.mk' h rfl⟩
   ·split at h
    ·rename_i hl
     obtain⟨d,g,_⟩:=j.at hl
     simp only[ren];exact⟨by omega,d,g,.mk' h rfl⟩
    grind
   grind
  grind
 grind
theorem Zlc{t:TypeId}{i:TI}(hi:TIok P t i){f:Nat}{x:AV}(h:TY i f x a K):EU P t f (ren r x) (KR r K):=by
 unfold TY at h
 rw[Zq0]
 split at h
 ·rename_i o n cs b
  rw[(MR hi b).2]
  split at h
  ·rename_i d
   have d:=Yg d
   simp only[ren,Ou]
   exact⟨by omega,.mk' h (by rw[ren,EQ,Fw])⟩
  grind
 ·rename_i o n cs b
  rw[(MR hi b).2]
  rw[Co]at h
  split at h
  ·rename_i c e
   simp only[ren,Ou,HK,e,Y2]
   exact .mk' h rfl
  grind
 grind
theorem zL{t:TypeId}{i:TI}(hi:TIok P t i)(w:Dx r H H')(m:∀b,g=some b→b=true){x j:AV}(h:SW i H x j g a K):Eh P H' t (ren r x) (ren r j) (KR r K):=by
 unfold SW at h
 split at h
 ·rename_i e sz k n he
  have he:=hi.elm _ he
  split at h
  ·rename_i y e' q
   split at h
   ·rename_i c d
    have c:=Yb c
    have d:=Yg d
    obtain⟨f,l⟩:Jb _ _ _:=Bu m h.1
    simp only[ren,Eh,he]
    refine⟨f,?_⟩
    rw[l]
    exact⟨c,by omega,.mk' h.2 rfl⟩
   grind
  ·rename_i k q off len o B
   split at h
   ·rename_i hl c d
    have c:=Yb c
    have d:=Yg d
    obtain⟨p,s,z,u,A⟩:=w.at hl
    obtain⟨f,l,v⟩:L3 _ _ _ _ _:=Bu m h.1
    simp only[ren,Eh,he]
    exact⟨f,l,p,s,by rw[u,c],by omega,.mk' h.2 (by rw[ren,v])⟩
   grind
  grind
 grind
theorem Zll{t:TypeId}{i:TI}(hi:TIok P t i)(m:∀b,g=some b→b=true){x j:AV}(h:TT i x j g a K):FA P t (ren r x) (ren r j) (KR r K):=by
 unfold TT at h
 split at h
 ·rename_i s k n b q
  split at h
  ·rename_i d
   have d:=Yb d
   obtain⟨e,c,f,l⟩:Jw _ _ _:=Bu m h.1
   simp only[ren,FA]
   refine⟨by rw[hi.kin];exact d,e,?_⟩
   rw[f]
   exact .mk' h.2 (by rw[ren,l])
  grind
 grind
theorem ZpT{op:BinOp}{k:IntKind}{x y:Int}(c:∀b,g=some b→b=true)(h:Sf op k x y g a K):GD op k x y (KR r K):=by
 unfold Sf at h
 cases op<;>simp only at h<;>try exact h.elim
 all_goals simp only[GD]
 case eql=>exact .mk' h rfl
 case neq=>exact .mk' h rfl
 case lss=>exact .mk' h rfl
 case leq=>exact .mk' h rfl
 case gtr=>exact .mk' h rfl
 case geq=>exact .mk' h rfl
 case add|sub|mul=>
  split at h
  ·have e:Cv _ _ _:=Bu c h.1
   unfold Cv at e
   rw[e];exact .mk' h.2 rfl
  ·grind
 case and|or|xor=>
  split at h
  ·have e:BF _ _:=Bu c h.1
   unfold BF at e
   rw[e];exact .mk' h.2 rfl
  ·grind
 case quo=>
  split at h
  ·have e:Cv _ _ _:=Bu c h.2.1
   unfold Cv at e
   rw[e];exact⟨Bu c h.1,.mk' h.2.2 rfl⟩
  ·grind
 case rem=>
  split at h
  ·have e:BF _ _:=Bu c h.2.1
   unfold BF at e
   rw[e];exact⟨Bu c h.1,.mk' h.2.2 rfl⟩
  ·grind
 case shr=>
  split at h
  ·have e:BF _ _:=Bu c h.2.1
   unfold BF at e
   rw[e];exact⟨Bu c h.1,.mk' h.2.2 rfl⟩
  ·grind
 case shl=>
  split at h
  ·have e:Cv _ _ _:=Bu c h.2.1
   unfold Cv at e
   rw[e];exact⟨Bu c h.1,.mk' h.2.2 rfl⟩
  ·grind
theorem ZpC{op:BinOp}{x y:ByteArray}(c:∀b,g=some b→b=true)(h:R6 op x y g a K):GA op x y (KR r K):=by
 unfold R6 at h
 cases op<;>simp only at h<;>try exact h.elim
 all_goals simp only[GA]
 case add=>exact⟨Bu c h.1,.mk' h.2 rfl⟩
 all_goals exact .mk' h rfl
theorem nm{neg:Bool}{x:AV}(i:Dx r H H')(h:L4 H neg x a K):DW H' neg (ren r x) (KR r K):=by
 unfold L4 at h
 split at h
 ·simp only[ren,DW];exact fun b=>.mk' (h b) rfl
 ·rename_i c
  cases c with
  |nil=>simp only[ren,DW];exact fun b=>.mk' (h b (fun e=>absurd rfl e)) rfl
  |cons e c=>simp only[ren,DW];exact .mk' (h neg (fun _=>rfl)) rfl
 ·rename_i k q off n
  split at h
  ·rename_i hl
   obtain⟨f,g,_⟩:=i.at hl
   simp only[ren,DW]
   exact⟨⟨f,g⟩,fun d=>.mk' (h neg (fun _=>rfl)) rfl,fun d b=>.mk' (h b (fun e=>absurd d e)) rfl⟩
  grind
 grind
theorem nV:∀(ks:List Nat) (xs ys:List AV) (b:Bool),Es ks xs ys=some b→Es ks (Am r xs) (Am r ys)=some b
 |[],[],[],b,h=>by simpa[Am]using h
 |k::ks,x::xs,y::ys,b,h=>by
  cases x<;>cases y<;>simp only[Es]at h<;>try (cases h;done)
  rename_i x y
  simp only[Am,ren,Es]
  split at h
  ·rename_i d e a c
   simp only[a,nV ks xs ys _ c]
   exact h
  ·cases h
 |[],[],_::_,b,h=>by simp[Es]at h
 |[],_::_,_,b,h=>by simp[Es]at h
 |_::_,[],_,b,h=>by simp[Es]at h
 |_::_,x::_,[],b,h=>by cases x<;>simp[Es]at h
theorem ZzM{H:Hp}{op:BinOp}{t:TypeId}{a:Bool}{x:AV}{K:AV→Prop}:CK P H op t a x .e0 K=(a=true∧kin P t=4∧match op with|.eql=>DW H false x K|.neq=>DW H true x K|_=>False):=by
 unfold CK
 grind
theorem Zpp{t:TypeId}{i:TI}(hi:TIok P t i)(e:Dx r H H')(f:∀b,g=some b→b=true){op:BinOp}{j:Bool}{x y:AV}(h:Rg i H op j x y g a K):CK P H' op t j (ren r x) (ren r y) (KR r K):=by
 unfold Rg at h
 split at h
 ·split at h
  ·rename_i c
   simp only[ren,CK]
   exact⟨wB c,ZpT f h⟩
  grind
 ·simp only[ren,CK];exact ZpC f h
 ·split at h
  ·rename_i c
   simp only[ren,CK]
   refine⟨by rw[hi.kin];exact Yb c,?_⟩
   split at h
   ·exact .mk' h rfl
   ·exact .mk' h rfl
   grind
  grind
 ·rename_i xs ys
  split at h
  ·rename_i ks d
   split at h
   ·rename_i b l
    simp only[ren,CK,G5,hi.eqt _ d,nV _ _ _ _ l]
    split at h
    ·exact .mk' h rfl
    ·exact .mk' h rfl
    grind
   grind
  grind
 ·rw[show ren r .e0=.e0 from by simp[ren],ZzM]
  split at h
  ·rename_i m k
   refine⟨rfl,by rw[hi.kin];exact Yb k,?_⟩
   split at h
   ·exact nm e h
   ·exact nm e h
   grind
  grind
 grind
theorem ZsY{op:UnOp}{x:AV}(c:∀b,g=some b→b=true)(h:Vm op x g a K):EF op (ren r x) (KR r K):=by
 unfold Vm at h
 split at h
 ·simp only[ren,EF];exact .mk' h rfl
 ·split at h
  ·have e:Cv _ _ _:=Bu c h.1
   unfold Cv at e
   simp only[ren,EF]
   rw[e];exact .mk' h.2 rfl
  grind
 ·split at h
  ·have e:BF _ _:=Bu c h.1
   unfold BF at e
   simp only[ren,EF]
   rw[e];exact .mk' h.2 rfl
  grind
 grind
theorem ZmT{s d:TypeId}{i j:TI}(hi:TIok P s i)(k:TIok P d j){x:AV}(l:∀b,g=some b→b=true)(h:UN i j x g a K):EV P s d (ren r x) (KR r K):=by
 unfold UN at h
 split at h
 ·split at h
  ·rename_i q n p k' o m t c f
   have e:Cv _ _ _:=Bu l h.1
   unfold Cv at e
   simp only[ren,EV,hi.ik _ c,k.ik _ f]
   rw[e];exact .mk' h.2 rfl
  grind
 ·split at h
  ·rename_i c f
   simp only[ren,EV,HJ (by rw[hi.kin];exact Yb c),HJ (by rw[k.kin];exact Yb f)]
   exact .mk' h rfl
  grind
 grind
theorem MT{d l:Nat}{o a:Option AV}(h:C9 d o l)(b:a=o.map (ren r)):Eb d a=some l:=by
 subst b
 unfold C9 at h
 split at h
 ·simp[Eb,h]
 ·subst h
  simp[Eb,ren]
 grind
theorem Zln{t:TypeId}{i:TI}(hi:TIok P t i)(B:Dx r H H')(c:∀b,g=some b→b=true){x:AV}{lo q:Option AV}{v:Bool}(h:TC i H x lo q v g a K):
  Em P H' t (ren r x) (lo.map (ren r)) (q.map (ren r)) v (KR r K):=by
 unfold TC at h
 split at h
 ·split at h
  ·split at h
   ·rename_i C
    obtain⟨m,n,o,p⟩:=h
    have f:=MT (r:=r) (Bu c m) rfl
    have j:=MT (r:=r) (Bu c n) rfl
    have d:EI _ _ _:=Bu c o
    simp only[ren,Em,f,j]
    exact⟨by rw[hi.kin];exact Yb C,trivial,d.1,d.2,.mk' p rfl⟩
   grind
  ·split at h
   ·rename_i e sz w D he
    split at h
    ·rename_i l
     have l:=Yg l
     obtain⟨m,n,o,p,u⟩:=h
     have f:=MT (r:=r) (Bu c m) rfl
     have j:=MT (r:=r) (Bu c n) rfl
     have d:EI _ _ _:=Bu c o
     have k:NL _ _ _ _ _:=Bu c p
     simp only[ren,Em,f,j,hi.elm _ he]
     exact⟨trivial,by omega,k.1,d.1,d.2,.mk' u (by rw[ren,k.2])⟩
    grind
   grind
  ·split at h
   ·rename_i e sz I G D he hl
    split at h
    ·rename_i l s
     have l:=Yg l
     obtain⟨y,z,E,A,F⟩:=B.at hl
     obtain⟨m,n,o,p,u⟩:=h
     have f:=MT (r:=r) (Bu c m) rfl
     have j:=MT (r:=r) (Bu c n) rfl
     have d:EI _ _ _:=Bu c o
     have k:VK _ _ _ _ _:=Bu c p
     simp only[ren,Em,f,j,hi.elm _ he]
     exact⟨trivial,y,z,by omega,by rw[A];exact Yb s,d.1,d.2,.mk' u (by rw[ren,k.1,k.2])⟩
    grind
   grind
  grind
 grind
theorem Zpg{t:TypeId}{i:TI}(hi:TIok P t i)(k:Dx r H H')(d:∀b,g=some b→b=true){x:AV}(h:RK i H x g a K):DT P H' t (ren r x) (KR r K):=by
 unfold RK at h
 split at h
 ·split at h
  ·rename_i c
   have e:BF _ _:=Bu d h.1
   unfold BF at e
   simp only[ren,DT,hi.kin]
   exact⟨Yb c,.mk' h.2 (by rw[ren,e])⟩
  grind
 ·split at h
  ·rename_i c
   have e:BF _ _:=Bu d h.1
   unfold BF at e
   simp only[ren,DT,hi.kin]
   exact⟨Yb c,.mk' h.2 (by rw[ren,e])⟩
  grind
 ·split at h
  ·rename_i c
   have e:BF _ _:=Bu d h.1
   unfold BF at e
   simp only[ren,DT,hi.kin]
   exact⟨Yb c,.mk' h.2 (by rw[ren,e])⟩
  grind
 ·split at h
  ·rename_i c hl
   have e:BF _ _:=Bu d h.1
   unfold BF at e
   obtain⟨f,j,_⟩:=k.at hl
   simp only[ren,DT,hi.kin]
   exact⟨Yb c,f,j,.mk' h.2 (by rw[ren,e])⟩
  grind
 grind
theorem ZpF(a:Dx r H H'){x:AV}{y:Bool×List (List D)}(h:cA H x=some y):Nk H' (ren r x)=some y:=by
 unfold cA at h
 split at h
 ·simp only[ren,Nk];exact h
 ·split at h
  ·rename_i k g _ _ q b hl he
   obtain⟨c,d,e,_,_⟩:=a.at hl
   simp only[ren,Nk]
   grind
  ·cases h
 ·cases h
theorem o0(q:Bool)(ds:List D):ren r (Nx q ds)=Nx q ds:=by
 unfold Nx
 split<;>simp[ren,HR]
theorem u0(a q:Bool)(ds:List D)(ok:Bool):ren r (Nw a q ds ok)=Nw a q ds ok:=by
 unfold Nw
 cases a
 ·exact o0 q ds
 ·simp only[ren,Am,o0]
theorem ZmO{t:TypeId}{i:TI}(hi:TIok P t i)(k:Dx r H H')(l:∀b,g=some b→b=true){x y:AV}{c:Bool}(h:UD i H x y c g a K):Gs P H' t (ren r x) (ren r y) c (KR r K):=by
 unfold UD at h
 split at h
 ·rename_i q z p o s ok vs n f j
  split at h
  ·rename_i m
   obtain⟨d,e⟩:Qm _ _ _ _ _:=Bu l h.1
   simp only[Gs,hi.mp _ f,ZpF k j,ren]
   exact⟨wh m,.mk' h.2 (by rw[d,e,u0])⟩
  grind
 grind
theorem OU{x:AV}{vs:List AV}(h:CZ x=some vs)(hx:∀f xs ys,x≠.fn (.yield f) xs ys):CZ (ren r x)=some (Am r vs):=by
 cases x<;>simp only[CZ,Yi]at h<;>try (cases h;done)
 case fn f xs ys=>
  subst h
  cases f with
  |yield i=>exact absurd rfl (hx i xs ys)
  |_=>simp[ren,Am,CZ]
 all_goals(subst h;simp[ren,Am,CZ])
theorem Pc{x:AV}(h:Jt x=true):∀f xs ys,x≠.fn (.yield f) xs ys:=by
 rintro f xs ys rfl;cases h
theorem vM{t:TypeId}{i:TI}(hi:TIok P t i){f o n:Nat}(h:eG i f=some (o,n)):fld P t f=some (o,n):=by
 unfold eG at h
 split at h
 ·rename_i d c b a
  simp only[Yi,GO]at h
  obtain⟨rfl,rfl⟩:=h
  exact(MR hi a).1
 ·cases h
theorem mU{t:TypeId}{i:TI}(hi:TIok P t i):∀(ps:List (Nat×AV)) (z cs:List AV),(∀p∈ps,Jt p.2=true)→P3 i z ps=some cs→CA (fld P t) (Am r z) (ps.map fun p=>(p.1,ren r p.2))=some (Am r cs)
 |[],z,cs,_,h=>by
  simp only[P3,Yi]at h
  subst h
  simp[CA]
 |(f,v)::ps,z,cs,e,h=>by
  simp only[P3]at h
  split at h
  ·rename_i off size vs a g
   split at h
   ·rename_i c d
    have c:=Yb c
    have d:=Yg d
    have b:=OU (r:=r) g (Pc (e (f,v) (Yv ..)))
    simp only[YV,CA,vM hi a,b,CF]
    rw[Yh (by omega)]
    have:=mU hi ps _ cs (fun p a=>e p (Yw _ a)) h
    rw[←this]
    simp only[GV,Fw,EQ]
   ·cases h
  ·cases h
theorem Zk3{t:TypeId}{i:TI}(hi:TIok P t i){parts:List (Nat×AV)}(e:∀p∈parts,Jt p.2=true)(f:∀z,i.zer=some z→Am r z=z)(h:TX i parts a K):
  FD P t (parts.map fun p=>(p.1,ren r p.2)) (KR r K):=by
 unfold TX at h
 split at h
 ·rename_i z c b
  split at h
  ·rename_i cs d
   have:=mU (r:=r) hi _ _ _ e d
   unfold FD
   rw[hi.zer _ b]
   rw[f z b]at this
   simp only[this]
   exact⟨hi.str c,.mk' h rfl⟩
  grind
 grind
theorem Zw0{x:AV}(h:x.flat=true):ren r x=x:=by cases x<;>first|(simp[ren];done)|cases h
theorem Km{z:List AV}(h:z.all AV.flat=true):Am r z=z:=by
 induction z with
 |nil=>simp[Am]
 |cons x z a=>
  simp only[II,Yc]at h
  rw[Am,Zw0 h.1,a h.2]
theorem mV{c x y:Operand}{ρ d:Operand→AV}{t:Bool}(e:ρ c=.d (.bool t))(b:d c=ren r (ρ c))(hx:t=true→d x=ren r (ρ x))(hy:t=false→d y=ren r (ρ y))(h:tV T H (.pick c x y) ρ g a K):
  A6 P H' (.pick c x y) d (KR r K):=by
 simp only[tV,e]at h
 rw[e]at b
 simp only[ren]at b
 simp only[A6,b]
 rw[Zwg]at h
 cases t
 ·exact .mk' h (by simp[hy rfl])
 ·exact .mk' h (by simp[hx rfl])
theorem cm{ρ a:Operand→AV}{xs:List Operand}(h:∀x∈xs,a x=ren r (ρ x)):xs.map a=Am r (xs.map ρ):=by
 rw[Fx,Hs]
 exact Y1 h
theorem oD{ρ a:Operand→AV}{o:Option Operand}(h:∀x,o=some x→a x=ren r (ρ x)):o.map a=(o.map ρ).map (ren r):=by
 cases o with
 |none=>rfl
 |some x=>simp[h x rfl]
theorem nv{r:Ren}{b:Bool}{x y:AV}{a:AT}{K:AV→AT→Prop}(h:Ef b x y (fun v=>K v a)):Ef b (ren r x) (ren r y) (KR r K):=by
 unfold Ef at h
 split at h
 ·simp only[ren,Ef];exact .mk' h rfl
 grind
theorem ZuQ(n:A9 P T)(C:Dx r H H')(A:∀b,g=some b→b=true){op:Op}{ρ w:Operand→AV}(Y:∀x∈op.operands,w x=ren r (ρ x))(h:tV T H op ρ g a K):A6 P H' op w (KR r K):=by
 have get:∀{x:Operand},x∈op.operands→w x=ren r (ρ x):=fun hx=>Y _ hx
 cases op<;>simp only[tV]at h<;>try exact h.elim
 case move x=>exact .mk' h (get (by simp[Op.operands]))
 case assign x=>exact .mk' h (get (by simp[Op.operands]))
 case pick c x y=>
  split at h
  ·rename_i t l
   exact mV (a:=a) (g:=g) (T:=T) (H:=H) l (get (by simp[Op.operands])) (fun _=>get (by simp[Op.operands])) (fun _=>get (by simp[Op.operands])) (by simp only[tV,l];exact h)
  ·grind
 case load t x=>
  split at h
  ·rename_i i hi;simp only[A6];rw[get (x:=x) (by simp[Op.operands])];exact aD (n _ _ hi) C A h
  ·grind
 case fieldAddr t x f=>
  split at h
  ·rename_i i hi;simp only[A6];rw[get (x:=x) (by simp[Op.operands])];exact zN (n _ _ hi) C h
  ·grind
 case field t x f=>
  split at h
  ·rename_i i hi;simp only[A6];rw[get (x:=x) (by simp[Op.operands])];exact Zlc (n _ _ hi) h
  ·grind
 case indexAddr t x j=>
  split at h
  ·rename_i i hi;simp only[A6];rw[get (x:=x) (by simp[Op.operands]),get (x:=j) (by simp[Op.operands])];exact zL (n _ _ hi) C A h
  ·grind
 case index t x j=>
  split at h
  ·rename_i i hi;simp only[A6];rw[get (x:=x) (by simp[Op.operands]),get (x:=j) (by simp[Op.operands])];exact Zll (n _ _ hi) A h
  ·grind
 case makeInterface t x=>
  split at h
  case h_2=>exact h.elim
  rename_i i hi
  have E:(i.str||i.elm.isSome)=true→JH P t=true:=qZ (n _ _ hi)
  simp only[A6]
  rw[get (x:=x) (by simp[Op.operands])]
  split at h
  ·rename_i xs D hx
   rw[hx]
   simp only[ren]
   split at h
   case h_2=>exact h.elim
   rename_i ds N
   have e:=Tn N
   subst e
   rw[HR,N]
   exact⟨E D,.mk' h rfl⟩
  ·rename_i y D hx
   rw[hx]
   simp only[ren]
   exact⟨E D,.mk' h rfl⟩
  ·exact h.elim
 case typeAssert x u t ok=>
  split at h
  case h_2=>exact h.elim
  rename_i i hi
  have E:(i.str||i.elm.isSome)=true→JH P t=true:=qZ (n _ _ hi)
  simp only[A6]
  rw[get (x:=x) (by simp[Op.operands])]
  split at h
  case h_2=>exact h.elim
  rename_i u ds q D hx
  rw[hx]
  simp only[ren]
  split at h
  case h_2=>exact h.elim
  rename_i v W F
  rw[F]
  have G:ren r v=v:=by
   cases q with
   |true=>cases F;simp only[ren,HR]
   |false=>
    match ds,F with
    |[d],F=>cases F;simp only[ren]
  refine⟨E D,Yb W,.mk' h ?_⟩
  cases ok with
  |true=>simp only[cond,ren,Am,G]
  |false=>exact G.symm
 case extract x j=>
  simp only[A6]
  rw[get (x:=x) (by simp[Op.operands])]
  split at h
  ·rename_i vs hx
   rw[hx]
   simp only[ren,HK]
   rw[Co]at h
   split at h
   ·rename_i y hy;rw[hy];exact .mk' h rfl
   grind
  ·grind
 case binOp o t x y u=>
  split at h
  ·rename_i i hi;simp only[A6];rw[get (x:=x) (by simp[Op.operands]),get (x:=y) (by simp[Op.operands])];exact Zpp (n _ _ hi) C A h
  ·grind
 case unOp o t x=>simp only[A6];rw[get (x:=x) (by simp[Op.operands])];exact ZsY A h
 case nilCheck x=>
  split at h
  ·rename_i k q off hx
   split at h
   ·rename_i hl
    simp only[A6]
    rw[get (x:=x) (by simp[Op.operands]),hx]
    obtain⟨g1,O,_,_,_⟩:=C.at hl
    simp only[ren,Ji]
    exact⟨g1.symm▸rfl,O,.mk' h (by simp[ren])⟩
   grind
  ·rename_i cs off hx
   simp only[A6]
   rw[get (x:=x) (by simp[Op.operands]),hx]
   simp only[ren,Ji]
   exact .mk' h (by simp[ren])
  ·grind
 case convert s d x=>
  split at h
  ·rename_i i j hi U;simp only[A6];rw[get (x:=x) (by simp[Op.operands])];exact ZmT (n _ _ hi) (n _ _ U) A h
  ·grind
 case makeFunc fn first B=>
  have m:first.toList.map w=Am r (first.toList.map ρ):=cm fun x hx=>get (by simp only[Op.operands,NX];exact .inl (by simpa using hx))
  have I:B.toList.map w=Am r (B.toList.map ρ):=cm fun x hx=>get (by simp only[Op.operands,NX];exact .inr (by simpa using hx))
  simp only[A6]
  rw[m,I]
  split at h
  ·grind
  ·rename_i L
   refine .mk' h ?_
   cases fn<;>first|exact absurd rfl (L _)|simp[ren]
 case slice t x lo hi mx=>
  split at h
  ·rename_i i J
   simp only[A6]
   rw[get (x:=x) (by simp[Op.operands]),oD (o:=lo) (fun y hy=>get (by subst hy;simp[Op.operands])),oD (o:=hi) (fun y hy=>get (by subst hy;simp[Op.operands]))]
   exact Zln (n _ _ J) C A h
  ·grind
 case build t parts=>
  split at h
  ·rename_i i hi E
   simp only[A6]
   have e:(parts.toList.map fun p=>(p.1,w p.2))=(parts.toList.map fun p=>(p.1,ρ p.2)).map fun p=>(p.1,ren r p.2):=by
    rw[Hs]
    refine Y1 fun p M=>?_
    simp only[Function.comp]
    rw[get (x:=p.2) (by simp only[Op.operands,NY,YR];exact⟨p,M,rfl⟩)]
   rw[e]
   refine Zk3 (n _ _ hi) (fun p M=>?_) (fun z X=>Km ((n _ _ hi).flt z X)) h
   obtain⟨q,hq,rfl⟩:=YR.1 M
   grind
  ·grind
 case lookup t x y Z=>
  split at h
  ·rename_i i hi;simp only[A6];rw[get (x:=x) (by simp[Op.operands]),get (x:=y) (by simp[Op.operands])];exact ZmO (n _ _ hi) C A h
  ·grind
 case call c=>
  split at h
  ·rename_i x t l hx V
   split at h
   ·rename_i i hi
    have m:c.args=#[x]:=CY (by simpa using hx)
    have I:c.argTypes=#[t]:=CY (by simpa using V)
    simp only[A6,l,m,I]
    show 1=1∧DT P H' t (w x) (KR r K)
    rw[get (x:=x) (by simp[Op.operands,Call.operands,l,m])]
    exact⟨rfl,Zpg (n _ _ hi) C A h⟩
   grind
  ·rename_i x y l hx
   have m:c.args=#[x,y]:=CY (by simpa using hx)
   simp only[A6,l,m]
   show Ef false (w x) (w y) (KR r K)
   rw[get (x:=x) (by simp[Op.operands,Call.operands,l,m]),get (x:=y) (by simp[Op.operands,Call.operands,l,m])]
   exact nv h
  ·rename_i x y l hx
   have m:c.args=#[x,y]:=CY (by simpa using hx)
   simp only[A6,l,m]
   show Ef true (w x) (w y) (KR r K)
   rw[get (x:=x) (by simp[Op.operands,Call.operands,l,m]),get (x:=y) (by simp[Op.operands,Call.operands,l,m])]
   exact nv h
  ·rename_i x y z l hx
   have m:c.args=#[x,y,z]:=CY (by simpa using hx)
   simp only[A6,l,m]
   show Hc true (w x) (w y) (w z) (KR r K)
   rw[get (x:=x) (by simp[Op.operands,Call.operands,l,m]),get (x:=y) (by simp[Op.operands,Call.operands,l,m]),get (x:=z) (by simp[Op.operands,Call.operands,l,m])]
   unfold Hc at h
   split at h
   ·rename_i Q R S
    rw[Q,R,S]
    simp only[ren,Hc];exact .mk' h rfl
   grind
  ·grind
end
abbrev CT:=List (Nat×Bool)
abbrev BD:=List (Nat×CT)
def lk:BD→Nat→CT
 |[],_=>[]
 |(i,c)::r,j=>match Nat.beq i j with|true=>c|false=>lk r j
def N3(t:Bool):Bool→Bool
 |true=>t
 |false=>!t
theorem aS{t b:Bool}:N3 t b=true↔t=b:=by cases t<;>cases b<;>simp[N3]
def K9:CT→CT→Bool
 |[],[]=>true
 |(i,a)::r,(j,b)::q=>Nat.beq i j&&N3 a b&&K9 r q
 |_,_=>false
theorem cu:∀{a b:CT},K9 a b=true→a=b
 |[],[],_=>rfl
 |(i,a)::r,(j,b)::q,h=>by
  simp only[K9,Yc]at h
  rw[Yb h.1.1,aS.1 h.1.2,cu h.2]
 |[],_::_,h=>by simp[K9]at h
 |_::_,[],h=>by simp[K9]at h
def Ri(a:CT):CT→Bool
 |[]=>K9 a []
 |q::b=>K9 a (q::b)||Ri a b
theorem oe{a:CT}:∀{b:CT},Ri a b=true→∀q∈a,q∈b
 |[],h,q,c=>by rw[cu h]at c;exact c
 |p::b,h,q,c=>by
  simp only[Ri,YG]at h
  rcases h with h|h
  ·rw[cu h]at c;exact c
  ·exact Yw _ (oe h q c)
def CU(s:Nat→AV)(c:CT):Prop:=∀q∈c,s q.1=.d (.bool q.2)
def Gh(s:Nat→AV):CT→Option Bool
 |[]=>some true
 |[(d,b)]=>match s d with|.d (.bool t)=>some (N3 t b)|_=>none
 |(d,b)::r=>match s d,Gh s r with|.d (.bool t),some c=>some (c&&N3 t b)|_,_=>none
theorem IR{s:Nat→AV}:∀{c:CT} {g:Bool},Gh s c=some g→(g=true↔CU s c)
 |[],g,h=>by simp only[Gh,Yi]at h;subst h;simp[CU]
 |[(d,b)],g,h=>by
  simp only[Gh]at h
  split at h
  ·rename_i t f
   simp only[Yi]at h
   subst h
   rw[aS]
   simp[CU,f]
  ·cases h
 |(d,b)::q::r,g,h=>by
  simp only[Gh]at h
  split at h
  ·rename_i t c f i
   simp only[Yi]at h
   subst h
   have j:=IR i
   rw[Yc,j,aS]
   constructor
   ·rintro⟨e,rfl⟩ p a
    rcases Yu.1 a with rfl|a
    ·exact f
    ·exact e p a
   ·intro e
    refine⟨fun p a=>e p (Yw _ a),?_⟩
    have:=e (d,b) (Yv ..)
    grind
  ·cases h
def KQ(e:Nat)(c:CT):Bool:=c.all fun q=>!Nat.beq q.1 e
def fresh(e:Nat)(env:BD):Bool:=env.all fun p=>KQ e p.2
theorem oz{s:Nat→AV}{e:Nat}{v:AV}{c:CT}(h:KQ e c=true):CU (upd s e v) c↔CU s c:=by
 have key:∀q∈c,upd s e v q.1=s q.1:=fun q a=>by
  have:=Yq.1 h q a
  unfold upd
  rw[Yh]
  intro he
  subst he
  simp at this
 constructor
 ·exact fun h q a=>(key q a)▸h q a
 ·exact fun h q a=>(key q a).trans (h q a)
theorem ob{e:Nat}:∀{env:BD},fresh e env=true→∀j,KQ e (lk env j)=true
 |[],_,j=>rfl
 |(i,c)::r,h,j=>by
  simp only[fresh,II,Yc]at h
  simp only[lk]
  split
  ·exact h.1
  ·exact ob h.2 j
theorem b7{env:BD}{e:Nat}{c:CT}(j:Nat):lk ((e,c)::env) j=if j=e then c else lk env j:=by
 simp only[lk]
 by_cases h:j=e
 ·subst h;simp
 ·rw[Yh h]
  split
  ·rename_i a;exact absurd (Yb a).symm h
  ·rfl
def It(env:BD)(c:CT):Operand→Bool
 |.tmp t=>Ri (lk env t) c
 |_=>true
def Cp(env:BD)(c:CT):Op→Bool
 |.pick (.tmp d) x y=>It env c (.tmp d)&&It env ((d,true)::c) x&&It env ((d,false)::c) y
 |op=>op.operands.toList.all (It env c)
structure RenOk (r:Ren) (l outs:Nat):Prop where
 own:∀d,r.κ (1,d)=(l+1,d)
 out:∀i,i<outs→(r.κ (0,i)).1≤l
 inj:∀i j,i<outs→j<outs→r.κ (0,i)=r.κ (0,j)→i=j
 no:∀k,r.no k→∃i,i<outs∧r.κ (0,i)=k
structure RG (r:Ren) (l outs:Nat) (env:BD) (τ σ:St):Prop where
 s:∀j,(CU τ.s (lk env j)→σ.s j=ren r (τ.s j))∧(¬CU τ.s (lk env j)→σ.s j=.tup [])
 h:Dx r τ.H σ.H
 g:∀d,(σ.H (l+1,d)).g=r.γ (1,d)+(τ.H (1,d)).g
 go:∀i,i<outs→(σ.H (r.κ (0,i))).g=r.γ (0,i)+(τ.H (0,i)).g
 k:∀k,(τ.H k).live=true→k.1=1∨(k.1=0∧k.2<outs)
 o:∀k:Ad,k.1≤l→¬r.no k→σ.H k=r.H0 k
def G2(P:Program)(l:Nat)(r:Ren)(f:FuncId)(xs:List AV)(c:List (Ad×Blk))(x:AV):Prop:=
 ∀a,(∀p∈c,p.2.live=true→a (r.κ p.1)=AG r p.1 p.2)→(∀k:Ad,k.1≤l→¬r.no k→a k=r.H0 k)→ZcG P f (l+1) (Am r xs) a (fun y b=>y=ren r x∧b=a)
def Nd(P:Program)(l:Nat)(r:Ren)(i:Nat)(xs:List AV)(d:List (Ad×Blk))(x:AV):Prop:=
 ∃f first a,r.θ i=.fn (.func f) first a∧∀b,(∀p∈d,p.2.live=true→b (r.κ p.1)=AG r p.1 p.2)→(∀k:Ad,k.1≤l→¬r.no k→b k=r.H0 k)→ZcG P f (l+1) (first++Am r xs++a) b (fun y c=>y=ren r x∧c=b)
def US(P:Program)(l:Nat)(r:Ren)(H:Hp)(f:AV)(xs:List AV)(g:Option Bool)(a:AT)(K:AV→AT→Prop):Prop:=
 match f,a with
 |.fn (.func i) first b,.call x ks a=>Bk g (G2 P l r i (first++xs++b) (ks.map fun k=>(k,H k)) x)∧K x a
 |.fn (.yield i) _ _,.call x ks a=>Bk g (Nd P l r i xs (ks.map fun k=>(k,H k)) x)∧K x a
 |_,_=>False
def Vc(T:Nat→Option TI)(τ:St)(t:TypeId)(len:Nat)(parts:List (Nat×Operand))(a:AT)(K:AV→AT→Prop):Prop:=
 match T t with
 |some i=>(match i.elm with
  |some (e,sz)=>(match Nat.ble 1 sz,len with
   |true,0=>(match parts with|[]=>K .e0 a|_=>False)
   |true,len+1=>(match T e,Nat.ble ((len+1)*sz) 16777216 with
    |some j,true=>(match j.zer with
     |some z=>(match Nat.beq z.length sz,FN sz 0 (parts.map fun p=>(p.1,ev τ.s p.2))with
      |true,some es=>(match Nat.beq es.length (len+1)with|true=>K (.d (.list es)) a|false=>False)
      |_,_=>False)
     |none=>False)
    |_,_=>False)
   |_,_=>False)
  |none=>False)
 |none=>False
def pV(P:Program)(T:Nat→Option TI)(l:Nat)(r:Ren)(τ:St)(op:Op)(g:Option Bool)(a:AT)(K:AV→AT→Prop):Prop:=
 match op with
 |.call c=>match c.callee with
  |.value f=>US P l r τ.H (ev τ.s f) (c.args.toList.map (ev τ.s)) g a K
  |_=>tV T τ.H op (ev τ.s) g a K
 |.buildSlice t len parts=>Vc T τ t len parts.toList a K
 |op=>tV T τ.H op (ev τ.s) g a K
def E0(n d:Nat)(K:St→AT→Prop)(τ:St)(v:AV)(a:AT):Prop:=
 match Nat.ble (d+1) n with
 |true=>K ⟨upd τ.s d v,τ.H⟩ a
 |false=>False
section
variable {P:Program} {T:Nat→Option TI} {r:Ren} {l n outs:Nat} {env:BD} {τ σ:St} {g:Option Bool} {a:AT} {c:CT}
theorem vV(v:Value):ren r (cv v)=cv v:=by unfold cv;split<;>simp[ren]
theorem KM(h:RG r l outs env τ σ)(hs:CU τ.s c){x:Operand}(hx:It env c x=true):ev σ.s x=ren r (ev τ.s x):=by
 cases x with
 |tmp t=>exact(h.s t).1 fun q a=>hs q (oe hx q a)
 |const v=>exact(vV v).symm
 |global g=>simp[ev,ren]
 |func f=>simp[ev,ren,Am]
theorem Gc(h:RG r l outs env τ σ)(hs:CU τ.s c){op:Op}(hx:op.operands.toList.all (It env c)=true):∀x∈op.operands,ev σ.s x=ren r (ev τ.s x):=
 fun x hm=>KM h hs (Yq.1 hx x (by simpa using hm))
theorem qk(s:A9 P T)(h:RG r l outs env τ σ)(hs:CU τ.s c)(u:∀b,g=some b→b=true){op:Op}(hx:Cp env c op=true){K:AV→AT→Prop}(i:tV T τ.H op (ev τ.s) g a K):
  A6 P σ.H op (ev σ.s) (KR r K):=by
 unfold Cp at hx
 split at hx
 ·rename_i d x y
  simp only[Yc]at hx
  obtain⟨⟨n,o⟩,p⟩:=hx
  have f:=i
  simp only[tV]at f
  split at f
  ·rename_i t k
   have m:=KM h hs n
   refine mV (T:=T) (H:=τ.H) (g:=g) (a:=a) k m (fun e=>KM h (c:=(d,true)::c) ?_ o) (fun e=>KM h (c:=(d,false)::c) ?_ p) i
   all_goals
    subst e
    intro q j
    rcases Yu.1 j with rfl|j
    ·exact k
    ·exact hs q j
  grind
 ·exact ZuQ s h.h u (Gc h hs hx) i
theorem aQ(h:RG r l outs env τ σ)(hs:CU τ.s c)(s:∀b,g=some b→b=true){cl:Call}{f:Operand}(o:cl.callee=.value f)(hx:Cp env c (.call cl)=true){K:AV→AT→Prop}
  (e:US P l r τ.H (ev τ.s f) (cl.args.toList.map (ev τ.s)) g a K):
  ∃i first d x j,ev σ.s f=.fn (.func i) first d∧ZcG P i (l+1) (first++cl.args.toList.map (ev σ.s)++d) σ.H (fun y t=>y=ren r x∧t=σ.H)∧K x j:=by
 have hx:(Op.call cl).operands.toList.all (It env c)=true:=hx
 have q:=Gc h hs hx f (by simp[Op.operands,Call.operands,o])
 have m:cl.args.toList.map (ev σ.s)=Am r (cl.args.toList.map (ev τ.s)):=cm fun x hm=>Gc h hs hx x (by simp only[Op.operands,Call.operands,o,NX];exact .inr (by simpa using hm))
 have n:∀ks:List Ad,∀p∈ks.map fun k=>(k,τ.H k),p.2.live=true→σ.H (r.κ p.1)=AG r p.1 p.2:=fun ks p e hl=>by
  obtain⟨k,A,rfl⟩:=YR.1 e
  exact h.h k hl
 unfold US at e
 split at e
 ·rename_i i first d x ks j he
  have v:G2 _ _ _ _ _ _ _:=Bu s e.1
  refine⟨i,Am r first,Am r d,x,j,by rw[q,he];simp[ren],?_,e.2⟩
  rw[m,←GV,←GV]
  exact v σ.H (n ks) h.o
 ·rename_i i xs ys x ks j he
  obtain⟨u,first,d,w,z⟩:Nd _ _ _ _ _ _ _:=Bu s e.1
  refine⟨u,first,d,x,j,by rw[q,he];simp[ren,w],?_,e.2⟩
  rw[m]
  exact z σ.H (n ks) h.o
 grind
theorem RG.put(h:RG r l outs env τ σ){e:Nat}{ch:CT}(b:fresh e env=true)(c:KQ e ch=true){v:AV}{y:AV}(hy:CU τ.s ch→y=ren r v)(d:¬CU τ.s ch→y=.tup []):
  RG r l outs ((e,ch)::env) ⟨upd τ.s e v,τ.H⟩ ⟨upd σ.s e y,σ.H⟩:=by
 refine⟨fun j=>?_,h.h,h.g,h.go,h.k,h.o⟩
 simp only
 rw[b7]
 by_cases a:j=e
 ·subst a
  rw[Yj rfl,oz c]
  simp only[upd,Yy]
  grind
 ·rw[Yh a,oz (ob b j)]
  simp only[upd,Yh a]
  exact h.s j
end
section
variable {P:Program} {l n:Nat} {H:Hp} {m:Mu} {S:Nat→Prop} {w w':World} {s:Nat→AV} {a:Act}
theorem Ok.allocO(h:Ok l H m S w)(k:Ad)(O:k.1≤l)(b:Blk)(K:b.e.isO=true)(u:b.cells=[])(N:(H k).g<b.g)(o:Obj)(D:w'.heap=w.heap.push o)
  (J:Jj w' S w.heap.size b.e) (F:w'.os=w.os) (G:w'.tape=w.tape) (I:w'.output=w.output):
  Ok l (updH H k b) (Ba m k ⟨w.heap.size,0,0⟩) S w'∧Ext l H m S w (updH H k b) (Ba m k ⟨w.heap.size,0,0⟩) S w':=by
 have d:∀i,i<w.heap.size→w'.heap[i]?=w.heap[i]?:=fun i hi=>by rw[D,LI,Yh (by omega)]
 have j:Ext l H m S w (updH H k b) (Ba m k ⟨w.heap.size,0,0⟩) S w':=by
  refine⟨fun _ h=>h,fun i hi=>d i (h.sub i hi),fun q a=>?_,fun q a y hl=>?_,F,G,I,by rw[D];simp⟩
  ·by_cases e:q=k
   ·subst e;rw[AO];omega
   ·rw[AC _ _ e];exact Yf _
  ·by_cases e:q=k
   ·subst e;rw[AO]at y;omega
   ·rw[AC _ _ e]at hl⊢;rw[AY _ _ e];exact⟨hl,rfl,rfl⟩
 have B:∀q:Ad,q.1≤l→(H q).live=true→(m q).cap≠0→(m q).b<w.heap.size:=fun q a hl n=>by
  obtain⟨C,t,_⟩:=h.blk q a hl n
  grind
 have A:∀q:Ad,q.1≤l→(H q).live=true→(H q).e.isO=true→(m q).b<w.heap.size:=fun q a hl n=>by
  obtain⟨C,t,_⟩:=(h.mp.o q a hl).at n
  grind
 refine⟨⟨fun i hi=>?_,fun q a hl c=>?_,fun q a hl c=>?_,fun q s a r hl f c g heq=>?_,fun q a hl c=>?_,
  ⟨fun q a hl=>?_,fun q a hl he=>?_,fun q s a r hl f he p heq=>?_⟩⟩,j⟩
 ·have:=h.sub i hi;rw[D];simp;omega
 ·by_cases e:q=k
  ·subst e;rw[AO];exact u
  ·rw[AC _ _ e]at hl⊢;rw[AY _ _ e]at c;exact h.empty q a hl c
 ·by_cases e:q=k
  ·subst e;rw[A2]at c;exact absurd rfl c
  ·rw[AC _ _ e]at hl;rw[AY _ _ e]at c⊢;exact h.fresh q a hl c
 ·by_cases e:q=k
  ·subst e;rw[A2]at c;exact absurd rfl c
  ·by_cases e':s=k
   ·subst e';rw[A2]at g;exact absurd rfl g
   ·rw[AY _ _ e,AY _ _ e']at heq
    rw[AC _ _ e]at hl;rw[AC _ _ e']at f
    rw[AY _ _ e]at c;rw[AY _ _ e']at g
    exact h.inj q s a r hl f c g heq
 ·by_cases e:q=k
  ·subst e;rw[A2]at c;exact absurd rfl c
  ·rw[AC _ _ e]at hl⊢
   rw[AY _ _ e]at c⊢
   obtain⟨C,t,hs,z,hx⟩:=h.blk q a hl c
   refine⟨C,by rw[d _ (B q a hl c)];exact t,hs,z,fun i x v hi M=>?_⟩
   obtain⟨E,g2⟩:=hx i x v hi M
   exact⟨E,g2.ext j a⟩
 ·by_cases e:q=k
  ·subst e;rw[AO,A2];exact J
  ·rw[AC _ _ e]at hl⊢;rw[AY _ _ e]
   exact(h.mp.o q a hl).mono (fun _ h=>h) (fun i hi=>d i (h.sub i hi)) (fun L=>d _ (A q a hl L))
 ·by_cases e:q=k
  ·subst e;rw[A2];exact⟨⟨rfl,rfl⟩,fun hs=>by have:=h.sub _ hs;simp at this⟩
  ·rw[AC _ _ e]at hl he;rw[AY _ _ e];exact h.mp.c q a hl he
 ·by_cases e:q=k<;>by_cases e':s=k
  ·grind
  ·subst e
   rw[A2,AY _ _ e']at heq
   rw[AC _ _ e']at f p
   grind
  ·subst e'
   rw[A2,AY _ _ e]at heq
   rw[AC _ _ e]at hl he
   grind
  ·rw[AY _ _ e,AY _ _ e']at heq
   rw[AC _ _ e]at hl he;rw[AC _ _ e']at f p
   exact h.mp.i q s a r hl f he p heq
theorem Ok.writeO(h:Ok l H m S w)(k:Ad)(y:k.1≤l)(hl:(H k).live=true)(t:(H k).e.isO=true)(e':EK)(n:e'.isO=true)(o:Obj)
  (F:∀b,w'.heap[b]?=if b=(m k).b then some o else w.heap[b]?) (B:w'.heap.size=w.heap.size) (L:Jj w' S (m k).b e') (I:w'.os=w.os) (J:w'.tape=w.tape) (K:w'.output=w.output):
  Ok l (updH H k {H k with e:=e' }) m S w'∧Ext l H m S w (updH H k {H k with e:=e' }) m S w':=by
 obtain⟨Q,R⟩:=h.mp.c k y hl t
 have j:Ext l H m S w (updH H k {H k with e:=e' }) m S w':=by
  refine⟨fun _ h=>h,fun b s=>?_,fun q d=>?_,fun q d T a=>?_,I,J,K,by omega⟩
  ·grind
  ·by_cases e:q=k
   ·subst e;rw[AO];exact Yf _
   ·rw[AC _ _ e];exact Yf _
  ·by_cases e:q=k
   ·subst e;rw[AO]at a⊢;exact⟨a,rfl,rfl⟩
   ·rw[AC _ _ e]at a⊢;exact⟨a,rfl,rfl⟩
 have f:∀q:Ad,(updH H k {H k with e:=e' } q).live=(H q).live:=fun q=>by
  by_cases e:q=k
  ·subst e;rw[AO]
  ·rw[AC _ _ e]
 have g:∀q:Ad,(H q).e.isO=(updH H k {H k with e:=e' } q).e.isO:=fun q=>by
  by_cases e:q=k
  ·subst e;rw[AO];exact t.trans n.symm
  ·rw[AC _ _ e]
 refine⟨⟨fun b s=>?_,fun q d a r=>?_,fun q d a r=>?_,fun q E d p a c r D heq=>?_,fun q d a r=>?_,
  ⟨fun q d a=>?_,fun q d a he=>?_,fun q E d p a c he n heq=>?_⟩⟩,j⟩
 ·rw[B];exact h.sub b s
 ·rw[f]at a
  have:=h.empty q d a r
  by_cases e:q=k
  ·subst e;rw[AO];exact this
  ·rw[AC _ _ e];exact this
 ·rw[f]at a;exact h.fresh q d a r
 ·rw[f]at a c;exact h.inj q E d p a c r D heq
 ·rw[f]at a
  by_cases e:q=k
  ·grind
  ·rw[AC _ _ e]
   obtain⟨C,s,hs,z,hx⟩:=h.blk q d a r
   have A:(m q).b≠(m k).b:=fun u=>by
    obtain⟨U,O,P⟩:=(h.mp.o k y hl).at t
    rw[u,O]at s;cases s;cases P
   refine⟨C,by rw[F,Yh A];exact s,hs,z,fun i x v hi N=>?_⟩
   obtain⟨G,g2⟩:=hx i x v hi N
   exact⟨G,g2.ext j d⟩
 ·rw[f]at a
  by_cases e:q=k
  ·subst e;rw[AO];exact L
  ·rw[AC _ _ e]
   refine(h.mp.o q d a).mono (fun _ h=>h) j.blk (fun M=>?_)
   rw[F,Yh (fun u=>e (h.mp.i q k d y a hl M t u))]
 ·rw[f]at a;rw[←g]at he;exact h.mp.c q d a he
 ·rw[f]at a c;rw[←g]at he n;exact h.mp.i q E d p a c he n heq
theorem MEnt.push{q:Bool}{es:List (List D)}{ents:Array MapEntry}{a:Nat}{s:ByteArray}{ds:List D}{v:Value}(h:MEnt w S q es ents a)(g:VR w S q ds v):
  MEnt w S q (es++[.str s::ds]) (ents.push {key:=.string s,val:=v,born:=a }) (a+1):=by
 have b:∀(i:Nat) (y:MapEntry),(ents.push {key:=.string s,val:=v,born:=a })[i]?=some y→(i=ents.size∧y={key:=.string s,val:=v,born:=a })∨(i≠ents.size∧ents[i]?=some y):=fun i y hy=>by
  grind
 refine⟨by simp[h.n],fun i k y z hy j e=>?_,fun i y hy=>?_,fun i e y hi hy=>?_⟩
 ·rcases b i y hy with⟨rfl,rfl⟩|⟨a1,c⟩<;>rcases b k z j with⟨rfl,rfl⟩|⟨l,f⟩
  ·rfl
  ·have:=h.clk k z f;simp only at e;omega
  ·have:=h.clk i y c;simp only at e;omega
  ·exact h.born i k y z c f e
 ·rcases b i y hy with⟨rfl,rfl⟩|⟨a1,c⟩
  ·grind
  ·exact VS (h.clk i y c)
 ·rcases b i y hy with⟨rfl,rfl⟩|⟨a1,c⟩
  ·rw[h.n,YE (Yf _),Nat.sub_self]at hi
   cases hi
   exact⟨s,ds,rfl,rfl,g⟩
  ·have d:i<es.length:=by rw[←h.n];exact Ko c
   rw[Ys d]at hi
   exact h.e i e y hi c
end
end Go.Eng
