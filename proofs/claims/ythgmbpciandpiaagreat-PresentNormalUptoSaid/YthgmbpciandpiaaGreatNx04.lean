import Derived.Test.YthgmbpciandpiaaGreatNx03
import Derived.Test.YthgmbpciandpiaaGreatNx00
namespace Go.Eng
open Go
set_option linter.all false
inductive Waits (ops:Array Oper):Nat→Nat→Prop
 |one {j i:Nat} {oj:Oper} {e:Edge} (hj:ops[j]?=some oj) (he:e∈oj.after) (hb:Region.binds .any e=true) (hi:e.on=i):Waits ops j i
 |more {j m i:Nat} {oj:Oper} {e:Edge} (hj:ops[j]?=some oj) (he:e∈oj.after) (hb:Region.binds .any e=true) (hm:e.on=m) (h:Waits ops m i):Waits ops j i
def PR(L:List Oper)(i:Nat):Nat→Nat→Bool
 |0,_=>false
 |a+1,j=>match Bu L j with|some b=>b.after.toList.any fun e=>Region.binds .any e&&(Nat.beq e.on i||PR L i a e.on)|none=>false
theorem ja{L:List Oper}{i:Nat}:∀(a j:Nat),PR L i a j=true→Waits L.toArray j i
 |0,j,h=>by cases h
 |a+1,j,h=>by
  unfold PR at h
  rw[Cp]at h
  split at h
  ·rename_i f d
   obtain⟨e,he,h⟩:=YM.1 h
   rw[Yc,Yz]at h
   have c:L.toArray[j]?=some f:=by simpa using d
   rcases h.2 with b|b
   ·exact .one c (by simpa using he) h.1 (Yd b)
   ·exact .more c (by simpa using he) h.1 rfl (ja a _ b)
  ·cases h
def DC(ops:Array Oper)(a:Array Bool):Prop:=∀(m:Nat) (b:Oper),ops[m]?=some b→a.getD m false=true→∀e∈b.after,Region.binds .any e=true→a.getD e.on false=true
theorem DC.waits{ops:Array Oper}{a:Array Bool}(h:DC ops a){j i:Nat}(d:Waits ops j i):a.getD j false=true→a.getD i false=true:=by
 induction d with
 |one c he b hi=>intro hl;rw[←hi];exact h _ _ c hl _ he b
 |more c he b hm _ e=>intro hl;exact e (by rw[←hm];exact h _ _ c hl _ he b)
theorem ZMR{a:Array Bool}{i:Nat}(h:a.getD i true=false):a.getD i false=false:=by
 grind
theorem DC.ready{ops:Array Oper}{a:Array Bool}(h:DC ops a){j:Nat}(g:j∈Region.ready .any ops a):DC ops (a.setIfInBounds j true):=by
 obtain⟨k,l,d,b⟩:=mem_ready.1 g
 intro m i hm hl e he f
 by_cases c:j=m
 ·subst c
  rw[d]at hm
  cases hm
  exact getD_set_true (b e he f)
 ·rw[getD_set_ne false c]at hl
  exact getD_set_true (h m i hm hl e he f)
theorem DC.nowait{ops:Array Oper}{a:Array Bool}(h:DC ops a){j i:Nat}(k:j∈Region.ready .any ops a)(hi:a.getD i true=false):¬Waits ops j i:=fun l=>by
 obtain⟨m,n,d,c⟩:=mem_ready.1 k
 have hi:=ZMR hi
 cases l with
 |one b he f g=>
  grind
 |more b he f hm e=>
  rw[d]at b
  cases b
  have:=h.waits e (by rw[←hm];exact c _ he f)
  grind
def B4(o:Oper):Bool:=match o.op,o.dst,o.guard with
 |.store _ _ _,none,none=>true
 |_,_,_=>false
def Hj(o:Oper):Bool:=match o.op with
 |.move _=>true
 |.binOp b _ _ _ _=>(match b with|.add=>true|.sub=>true|_=>false)
 |.indexAddr _ _ _=>true
 |.fieldAddr _ _ _=>true
 |.nilCheck _=>true
 |_=>false
def fu(H H':Hp):Prop:=∀k,(H' k).g=(H k).g∧(H' k).live=(H k).live∧(H' k).sz=(H k).sz
def Oj(L:List Oper)(p:Oper)(k:Nat):Bool:=Ce p k||p.after.toList.any fun e=>Region.binds .any e&&(match L[e.on]? with|some a=>Ce a k|none=>false)
def Ux(L:List Oper)(o:Oper)(k:Nat):Nat→List Oper→Bool
 |_,[]=>true
 |j,p::r=>(match B4 o with|true=>Ce p k|false=>true)&&(match B4 p with|true=>Hj o||Oj L p k|false=>true)&&!Ce o j&&Ux L o k (j+1) r
def Ll(L:List Oper):Nat→List Oper→Bool
 |_,[]=>true
 |k,o::r=>Ux L o k (k+1) r&&Ll L (k+1) r
theorem ZyO{L:List Oper}{o:Oper}{k:Nat}:∀{l:List Oper} {j i:Nat} {p:Oper},Ux L o k j l=true→l[i]?=some p→(B4 o=true→Ce p k=true)∧(B4 p=true→Hj o=true∨Oj L p k=true)∧Ce o (j+i)=false
 |[],j,i,p,_,h=>by simp at h
 |q::r,j,i,p,a,h=>by
  simp only[Ux,Yc,YL]at a
  cases i with
  |zero=>
   grind
  |succ i=>
   have:=ZyO a.2 (i:=i) (by simpa using h)
   grind
theorem my{L:List Oper}:∀{l:List Oper} {k i j:Nat} {o p:Oper},Ll L k l=true→i<j→l[i]?=some o→l[j]?=some p→(B4 o=true→Ce p (k+i)=true)∧(B4 p=true→Hj o=true∨Oj L p (k+i)=true)∧Ce o (k+j)=false
 |[],k,i,j,o,p,_,_,h,_=>by simp at h
 |q::r,k,i,j,o,p,b,c,h,a=>by
  simp only[Ll,Yc]at b
  cases j with
  |zero=>omega
  |succ j=>
   have a:r[j]?=some p:=by simpa using a
   cases i with
   |zero=>
    simp only[FA,Ym]at h
    subst h
    have:=ZyO b.1 a
    grind
   |succ i=>
    have:=my b.2 (Nat.lt_of_succ_lt_succ c) (by simpa using h) a
    grind
theorem jB{p:Oper}{k:Nat}(h:Ce p k=true)(b:∀e∈p.after,Region.binds .any e=true→e.on≠k):False:=by
 unfold Ce at h
 rw[YM]at h
 obtain⟨e,he,a⟩:=h
 simp only[Yc]at a
 exact b e (by simpa using he) a.1 (Yd a.2)
section
variable {P:Program} {l n:Nat} {B:Base} {H H':Hp} {ops:Array Oper} {ρ:Operand→AV}
theorem xi{o:Oper}{v:AV}(h:Hj o=true)(hs:fu H H')(a:qV P l H o ρ v):qV P l H' o ρ v:=by
 obtain⟨e,op,type,pos,after,guard⟩:=o
 cases op<;>simp only[Hj]at h<;>first|(cases h;done)|skip
 case move=>exact a
 case nilCheck=>
  simp only[qV,Bb]at a⊢
  unfold IW at a⊢
  split at a
  ·rename_i k g off _
   obtain⟨b,c,d⟩:=hs k
   grind
  ·exact a
  ·grind
 case fieldAddr=>
  simp only[qV,Bb]at a⊢
  unfold Fb at a⊢
  split at a
  ·exact a
  ·rename_i k g off o n _ _
   obtain⟨b,c,d⟩:=hs k
   grind
  ·grind
 case indexAddr=>
  simp only[qV,Bb]at a⊢
  unfold EE at a⊢
  split at a
  ·exact a
  ·rename_i k g off len _ n _ sz _ _ _
   obtain⟨b,c,d⟩:=hs k
   grind
  ·grind
 case binOp=>
  simp only[qV,Bb]at a⊢
  unfold CK at a⊢
  split at a
  ·exact a
  ·exact a
  ·grind
  ·exact a
  ·grind
  ·grind
theorem ZWb{o:Oper}{s:Nat→AV}{v:AV}(h:Hj o=true)(hs:fu H H')(a:YA P l H ops o s v):YA P l H' ops o s v:=by
 unfold YA at a⊢
 split at a
 ·exact xi h hs a
 ·split at a
  ·exact⟨fun e=>xi h hs (a.1 e),a.2⟩
  grind
def GJ(P:Program)(l:Nat)(o:Oper)(s:Nat→AV)(H H':Hp):Prop:=match o.op with
 |.store t a x=>match ev s a,C1 (ev s x)with
  |.ptr k g off,some vs=>g=(H k).g∧(H k).live=true∧vs.length=P.cellsOf t∧vs≠[]∧off+vs.length≤(H k).cells.length∧(k.1=l+1∨vs.all (AV.low k.1)=true)∧
    H'=updH H k {H k with cells:=(H k).cells.take off++vs++(H k).cells.drop (off+vs.length) }
  |_,_=>False
 |_=>False
theorem ZG9{o:Oper}{s:Nat→AV}(h:GJ P l o s H H'):fu H H':=by
 unfold GJ at h
 split at h
 ·split at h
  ·obtain⟨_,_,_,_,_,_,rfl⟩:=h
   intro k
   unfold updH
   grind
  grind
 grind
theorem ZSm{o:Oper}{s:Nat→AV}{K:St→Prop}(hs:B4 o=true)(h:BJ P l n o K ⟨s,H⟩):∃H',GJ P l o s H H'∧K ⟨s,H'⟩:=by
 obtain⟨a,op,type,pos,after,guard⟩:=o
 cases op<;>simp only[B4]at hs<;>first|(cases hs;done)|skip
 cases a with
 |some d=>cases hs
 |none=>
  simp only[BJ]at h
  simp only[GJ]
  grind
theorem ZQp{o:Oper}{s:Nat→AV}{K:St→Prop}(hs:B4 o=true)(h:GJ P l o s H H')(b:K ⟨s,H'⟩):BJ P l n o K ⟨s,H⟩:=by
 obtain⟨a,op,type,pos,after,guard⟩:=o
 cases op<;>simp only[B4]at hs<;>first|(cases hs;done)|skip
 cases a with
 |some d=>cases hs
 |none=>
  simp only[GJ]at h
  simp only[BJ]
  grind
theorem ZLx{o:Oper}{s:Nat→AV}{d:Nat}{u:AV}(g:d∉o.looksAt ops)(h:GJ P l o (upd s d u) H H'):GJ P l o s H H':=by
 have b:∀x∈o.op.operands,ev (upd s d u) x=ev s x:=fun x i=>by
  cases x with
  |tmp t=>
   have c:t≠d:=fun e=>g (by
    subst e
    exact JQ _ (List.mem_filterMap.2 ⟨.tmp t,by simpa using i,rfl⟩))
   simp[ev,upd,c]
  |_=>rfl
 unfold GJ at h⊢
 split at h
 ·rename_i t a x f
  rw[b a (by rw[f];simp[Op.operands]),b x (by rw[f];simp[Op.operands])]at h
  exact h
 grind
variable {fin:Bool} {X:St→Prop}
def Ft(P:Program)(l n:Nat)(ops:Array Oper)(fin:Bool)(X:St→Prop)(i:Nat)(K:St→Prop)(σ:St):Prop:=
 match ops[i]? with
 |none=>K σ
 |some o=>(C2 o=true∧∃d v,o.dst=some d∧d<n∧YA P l σ.H ops o σ.s v∧K ⟨upd σ.s d v,σ.H⟩)∨(B4 o=true∧∃H',GJ P l o σ.s σ.H H'∧K ⟨σ.s,H'⟩)∨(fin=true∧i+1=ops.size∧X σ)
def JZ(P:Program)(l n:Nat)(ops:Array Oper)(fin:Bool)(X:St→Prop)(Q:St→Prop):Nat→Array Bool→St→Prop
 |0,a,σ=>Region.ready .any ops a=[]∧Q σ
 |fuel+1,a,σ=>(Region.ready .any ops a=[]→Q σ)∧∀i∈Region.ready .any ops a,Ft P l n ops fin X i (JZ P l n ops fin X Q fuel (a.setIfInBounds i true)) σ
theorem ZBL{i:Nat}{K g:St→Prop}{σ:St}(h:∀s,K s→g s)(b:Ft P l n ops fin X i K σ):Ft P l n ops fin X i g σ:=by
 unfold Ft at*
 split
 ·rename_i e;rw[e]at b;exact h _ b
 ·rename_i o e
  rw[e]at b
  rcases b with⟨a,d,v,c,f,j,k⟩|⟨a,H',c,f⟩|a
  ·exact .inl ⟨a,d,v,c,f,j,h _ k⟩
  ·exact .inr (.inl ⟨a,H',c,h _ f⟩)
  ·exact .inr (.inr a)
theorem ZLv{i j:Nat}{c t:Oper}{d:Nat}{v:AV}(A:ops[j]?=some t)(a:c.dst=some d)(m:c.apart ops t=true)(p:B4 t=true→Hj c=true)(r:fin=true→j+1≠ops.size){K:St→Prop}{s:Nat→AV}
  (hy:YA P l H ops c s v) (h:Ft P l n ops fin X j K ⟨upd s d v,H⟩):Ft P l n ops fin X j (fun g=>YA P l g.H ops c g.s v∧K ⟨upd g.s d v,g.H⟩) ⟨s,H⟩:=by
 obtain⟨w,x,y⟩:=Oper.apart_spec m
 unfold Ft at*
 simp only[A]at*
 rcases h with⟨b,e,u,he,o,f,k⟩|⟨b,H',f,k⟩|⟨b,z,_⟩
 ·refine .inl ⟨b,e,u,he,o,tf (w d a) f,ZLO (y e he) hy,?_⟩
  have q:d≠e:=fun e'=>x d a (e'▸he)
  rw[ZA7 (Ne.symm q)]
  exact k
 ·exact .inr (.inl ⟨b,H',ZLx (w d a) f,ZWb (p b) (ZG9 f) hy,k⟩)
 ·exact absurd z (r b)
theorem Zrk{Q:St→Prop}{i:Nat}{p:Oper}{d:Nat}{v:AV}(hi:ops[i]?=some p)(hq:C2 p=true)(E:p.dst=some d)(M:d<n):
  ∀(fuel:Nat) (a:Array Bool) (s:Nat→AV) (H:Hp),
   (∀j w,ops[j]?=some w→j≠i→a.getD j true=false→(∀e∈w.after,Region.binds .any e=true→e.on≠i∧∀b,ops[e.on]?=some b→Ce b i=false)→¬Waits ops j i→p.apart ops w=true∧(B4 w=true→Hj p=true)∧(fin=true→j+1≠ops.size))→DC ops a→
   (∀m b,ops[m]?=some b→Ce b i=true→a.getD m true=false)→i∈Region.ready .any ops a→YA P l H ops p s v→
   JZ P l n ops fin X Q fuel (a.setIfInBounds i true) ⟨upd s d v,H⟩→JZ P l n ops fin X Q (fuel+1) a ⟨s,H⟩:=by
 have x:∀{K:St→Prop} {s:Nat→AV} {H:Hp},YA P l H ops p s v→K ⟨upd s d v,H⟩→Ft P l n ops fin X i K ⟨s,H⟩:=fun hy hK=>by
  unfold Ft;simp only[hi];exact .inl ⟨hq,d,v,E,M,hy,hK⟩
 intro fuel
 induction fuel with
 |zero=>
  intro a s H _ _ U u hy C
  refine⟨fun h=>(by rw[h]at u;cases u),fun j B=>?_⟩
  by_cases c:j=i
  ·subst c;exact x hy C
  ·have:=ready_mono B c
   rw[C.1]at this
   cases this
 |succ fuel ih=>
  intro a s H g Y U u hy C
  refine⟨fun h=>(by rw[h]at u;cases u),fun j B=>?_⟩
  by_cases c:j=i
  ·subst c;exact x hy C
  ·have f:=C.2 j (ready_mono B c)
   obtain⟨r,w,A,q⟩:=mem_ready.1 B
   have t:∀e∈w.after,Region.binds .any e=true→e.on≠i:=fun e he J heq=>by
    have f:=q e he J
    have D:=(mem_ready.1 u).1
    rw[heq]at f
    rcases YK i a.size with y|y
    ·simp[y]at D f;rw[D]at f;cases f
    ·simp[Gf y]at f
   have z:∀e∈w.after,Region.binds .any e=true→e.on≠i∧∀b,ops[e.on]?=some b→Ce b i=false:=fun e he J=>⟨t e he J,fun b T=>by
    cases L:Ce b i with
    |false=>rfl
    |true=>
     have f:=q e he J
     have D:=U _ b T L
     rcases YK e.on a.size with y|y
     ·simp[y]at D f;rw[D]at f;cases f
     ·simp[Gf y]at f⟩
   have N:=g j w A c r z (Y.nowait B (mem_ready.1 u).1)
   have h2:=ZLv (i:=i) A E N.1 N.2.1 N.2.2 hy f
   have o:∀k ok,ops[k]?=some ok→k≠i→(a.setIfInBounds j true).getD k true=false→
     (∀e∈ok.after,Region.binds .any e=true→e.on≠i∧∀b,ops[e.on]?=some b→Ce b i=false)→¬Waits ops k i→p.apart ops ok=true∧(B4 ok=true→Hj p=true)∧(fin=true→k+1≠ops.size):=fun k ok hk O I R S=>by
    refine g k ok hk O ?_ R S
    by_cases F:j=k
    ·subst F;exact r
    ·rw[getD_set_ne true F]at I;exact I
   have V:∀m b,ops[m]?=some b→Ce b i=true→(a.setIfInBounds j true).getD m true=false:=fun m b hm L=>by
    by_cases G:j=m
    ·subst G
     rw[A]at hm
     cases hm
     exact(jB L t).elim
    ·rw[getD_set_ne true G];exact U m b hm L
   refine ZBL (fun Z W=>ih (a.setIfInBounds j true) Z.s Z.H o (Y.ready B) V (ready_mono u (Ne.symm c)) W.1 ?_) h2
   rw[sx _ _ c]
   exact W.2
theorem jR{K K0:St→Prop}{m:Nat}(q:∀k (a:Array Bool) (s:Nat→AV) (H:Hp),k+m=ops.size→(∀j,a.getD j true=false→k≤j)→Region.lexFrom .any ops m k a=true→K0 ⟨s,H⟩→JZ P l n ops fin X K m a ⟨s,H⟩)(x:fin=true→∀i,i+1<ops.size→Waits ops (ops.size-1) i)(A:∀i j N w,i<j→ops[i]?=some N→ops[j]?=some w→(B4 N=true→Ce w i=true)∧(B4 w=true→Hj N=true∨Oj ops.toList w i=true)∧Ce N j=false):
  ∀(rest:List Oper) (k:Nat) (a:Array Bool) (s:Nat→AV) (H:Hp),rest.all (fun o=>C2 o||B4 o)=true→(∀j,a.getD j true=false→k≤j)→(∀j,k≤j→j<ops.size→a.getD j true=false)→
  k+rest.length+m=ops.size→DC ops a→(∀j,j<rest.length→rest[j]?=ops[k+j]?)→Region.lexFrom .any ops (rest.length+m) k a=true→D9 P l n (ops.toList.map (·.dst)) rest K0 ⟨s,H⟩→JZ P l n ops fin X K (rest.length+m) a ⟨s,H⟩
 |[],k,a,s,H,_,F,_,u,_,_,hB,h=>by
  simp only[FE,YN,DV]at hB u⊢
  exact q k a s H u F hB h
 |o::rest,k,a,s,H,Z,F,hk2,u,hD,hl,hB,h=>by
  have M:ops[k]?=some o:=by simpa using(hl 0 (by simp)).symm
  rw[DB,Nat.add_right_comm]at hB⊢
  simp only[Region.lexFrom,Yc]at hB
  obtain⟨⟨D,hf⟩,Q⟩:=hB
  have D:k∈Region.ready .any ops a:=by simpa using D
  simp only[IM,Yc,Yz]at Z
  have U:∀j,(a.setIfInBounds k true).getD j true=false→k+1≤j:=fun j E=>by
   by_cases p:k=j
   ·subst p
    exfalso
    rcases YK k a.size with L|L
    ·simp[L]at E
    grind
   ·rw[getD_set_ne true p]at E
    grind
  have G:∀j,k+1≤j→j<ops.size→(a.setIfInBounds k true).getD j true=false:=fun j h1 h2=>by
   rw[getD_set_ne true (by omega)]
   grind
  have hu:∀m om,ops[m]?=some om→Ce om k=true→a.getD m true=false:=fun m om hm ho=>by
   grind
  have W:∀j,j<rest.length→rest[j]?=ops[k+1+j]?:=fun j E=>by have:=hl (j+1) (by simp;omega);simpa[YG,N3 1 j]using this
  have next:∀s' H',D9 P l n (ops.toList.map (·.dst)) rest K0 ⟨s',H'⟩→JZ P l n ops fin X K (rest.length+m) (a.setIfInBounds k true) ⟨s',H'⟩:=fun s' H' L=>
   jR q x A rest (k+1) _ s' H' (by simpa using Z.2) U G (by simp only[DB]at u;omega) (hD.ready D) W Q L
  by_cases f:B4 o=true
  ·
   have z:o.guard=none:=by
    cases z:o.guard with
    |none=>rfl
    |some _=>obtain⟨O,op,type,pos,after,guard⟩:=o;simp only at z;subst z;cases op<;>cases O<;>simp[B4]at f
   have J:BJ P l n o (D9 P l n (ops.toList.map (·.dst)) rest K0) ⟨s,H⟩:=by
    unfold D9 at h
    simp only[z]at h
    unfold F7 at h
    split at h
    ·rename_i R;simp[B4,R]at f
    ·rename_i c R;simp[B4,R]at f
    ·exact h
   obtain⟨H',hS,hK⟩:=ZSm f J
   refine⟨fun h=>(by rw[h]at D;cases D),fun j E=>?_⟩
   by_cases p:j=k
   ·subst p
    unfold Ft
    grind
   ·exfalso
    obtain⟨g,w,r,hall⟩:=mem_ready.1 E
    have V:=F j g
    have he:=(A k j o w (by omega) M r).1 f
    refine jB he fun e he y heq=>?_
    grind
  ·have C:C2 o=true:=by rcases Z.1 with h|h;exact h;exact absurd h f
   have hst:∃d v,o.dst=some d∧d<n∧YA P l H ops o s v∧D9 P l n (ops.toList.map (·.dst)) rest K0 ⟨upd s d v,H⟩:=by
    unfold D9 at h
    unfold YA
    cases z:o.guard with
    |none=>simp only[z]at h;exact Zog C h
    |some gw=>
     obtain⟨i,b⟩:=gw
     simp only[z]at h⊢
     split at h
     ·rename_i t ht
      cases t with
      |true=>
       obtain⟨d,v,h1,h2,h3,h4⟩:=Zog C (h.1 rfl)
       grind
      |false=>
       grind
     grind
   obtain⟨d,v,hd,S,hy,hK⟩:=hst
   refine Zrk M C hd S (rest.length+m) a s H (fun j w r p g I Y=>⟨Region.free_spec M hf j w r p g (fun e he y=>(I e he y).1),fun hsj=>?_,fun T B=>Y (by have:=x T k (by have:=F j g;omega);rwa [←B,Nat.add_sub_cancel]at this)⟩) hD hu D hy (next _ _ hK)
   have V:=F j g
   rcases(A k j o w (by omega) M r).2.1 hsj with h|h
   ·exact h
   ·exfalso
    unfold Oj at h
    rw[Yz]at h
    rcases h with h|h
    ·exact jB h fun e he y=>(I e he y).1
    ·obtain⟨e,he,y⟩:=YM.1 h
     rw[Yc]at y
     obtain⟨BX,Ax⟩:=y
     split at Ax
     ·grind
     grind
theorem Zm2{i:Nat}{σ:St}{a:Act}{w:World}{K:St→Prop}{q:Act→World→Prop}{f:Exit→Act→World→Prop}(r:R l n B σ a w)
  (h:∀σ a w,R l n B σ a w→K σ→q a w) (L:fin=true→i+1=ops.size→X σ→wpOp P ops f i q a w) (A:Ft P l n ops fin X i K σ):wpOp P ops f i q a w:=by
 have z:=L
 obtain⟨s,H⟩:=σ
 unfold Ft at A
 unfold wpOp
 split
 ·grind
 ·rename_i o G
  simp only[G]at A
  rcases A with⟨C,d,v,F,g,hy,E⟩|⟨k,H',y,E⟩|⟨T,U,V⟩
  rotate_left 2
  ·have:=z T U V
   unfold wpOp at this
   simpa only[G]using this
  ·have go:qV P l H o (ev s) v→o.wp P a w q f:=fun Q=>by
    have:=ZNZ (B:=B) C F g Q a w r f
    refine Oper.wp_mono (fun I w' ⟨D,e,x⟩=>?_) this
    grind
   unfold YA at hy
   cases c:o.guard with
   |none=>
    simp only[c]at hy
    rw[Yg (by simp[Region.wanted,c])]
    grind
   |some J=>
    obtain⟨j,b⟩:=J
    simp only[c]at hy
    split at hy
    ·rename_i t O
     have p:(yielded ops a.tmps j==some b)=t:=by
      obtain⟨m,S,W,Y,M,y,N⟩:=r.un
      exact Zlf y O
     cases t with
     |true=>
      rw[Yg (by simp only[Region.wanted,c];exact p)]
      grind
     |false=>
      rw[Yf (by simp only[Region.wanted,c,p];decide)]
      have:=hy.2 rfl
      subst this
      rw[F]
      exact h _ _ _ (R.undef r g) E
    grind
  ·have c:o.guard=none:=by
    cases c:o.guard with
    |none=>rfl
    |some _=>obtain⟨u,op,type,pos,after,guard⟩:=o;simp only at c;subst c;cases op<;>cases u<;>simp[B4]at k
   rw[Yg (by simp[Region.wanted,c])]
   refine .inl ?_
   have:=Mx (B:=B) (ZQp (n:=n) (K:=fun D=>D=⟨s,H'⟩) k y rfl) a w r f
   refine Oper.wp_mono (fun I w' ⟨D,e,x⟩=>?_) this
   grind
theorem Zjl{c:Exit→Act→World→Prop}{b:Array Bool}(h:Region.ready .any ops b=[]){a:Act}{w:World}(d:c .normal a w):∀fuel,wpAny P .any ops c fuel b a w
 |0=>⟨h,d⟩
 |_+1=>⟨fun _=>d,fun i hi=>by rw[h]at hi;cases hi⟩
theorem iS{Q:St→Prop}{p:Exit→Act→World→Prop}(r:∀σ a w,R l n B σ a w→Q σ→p .normal a w)(c:fin=true→∀i,i+1<ops.size→Waits ops (ops.size-1) i)(z:fin=true→∀σ a w,R l n B σ a w→X σ→∀o,ops[ops.size-1]?=some o→wpList P ops p [o] a w):
  ∀(fuel:Nat) (b:Array Bool) (σ:St) (a:Act) (w:World),DC ops b→R l n B σ a w→JZ P l n ops fin X Q fuel b σ→wpAny P .any ops p fuel b a w
 |0,_,_,_,_,_,f,h=>⟨h.1,r _ _ _ f h.2⟩
 |fuel+1,b,σ,a,w,y,f,h=>⟨fun v=>r _ _ _ f (h.1 v),fun i hi=>Zm2 f (fun s' u w' s E=>iS r c z fuel _ s' u w' (y.ready hi) s E) (fun D K I=>by
  obtain⟨v,o,C,A⟩:=mem_ready.1 hi
  have e:ops.size-1=i:=by omega
  have hw:=z D σ a w f I o (by rw[e];exact C)
  have k:Region.ready .any ops (b.setIfInBounds i true)=[]:=by
   refine List.eq_nil_iff_forall_not_mem.2 fun j F=>?_
   obtain⟨m,J,t,_⟩:=mem_ready.1 F
   have G:j<ops.size:=(Y9.1 t).1
   by_cases g:i=j
   ·subst g
    rcases YK i b.size with q|q
    ·simp[q]at m
    ·simp[Gf q]at m
   ·rw[getD_set_ne true g]at m
    have x:=c D j (by omega)
    rw[e]at x
    exact y.nowait hi m x
  unfold wpOp
  simp only[C]
  unfold wpList at hw
  split
  ·rename_i d
   rw[Yg d]at hw
   exact hw.imp (Oper.wp_mono fun u w' H=>Zjl k H _) id
  ·rename_i d
   rw[Yf d]at hw
   exact Zjl k hw _) (h.2 i hi)⟩
theorem DC.none(n:Nat):DC ops (Array.replicate n false):=fun m b _ h=>by
 rw[YC]at h
 rcases YK m n with a|a
 ·simp[a]at h
 ·simp[Nat.not_lt.2 a]at h
theorem ZqI{id:Nat}{ops:List Oper}{σ:St}{Q:Exit→St→Prop}(hm:P.follows .mixedOrders=true)(hB:Region.lexB .any ops.toArray=true)(C:ops.all (fun o=>C2 o||B4 o)=true)(hs:Ll ops 0 ops=true)
  (h:D9 P l n (ops.map (·.dst)) ops (Q .normal) σ):BR P l n B (.region id ops.toArray true) Q σ:=by
 intro a w x
 obtain⟨s,H⟩:=σ
 simp only[Region.lexB,Yc]at hB
 have u:=jR (P:=P) (l:=l) (n:=n) (ops:=ops.toArray) (K:=Q .normal) (K0:=Q .normal) (m:=0) (fin:=false) (X:=fun _=>False) (fun k c s H _ _ hB h=>⟨by simpa[Region.lexFrom]using hB,h⟩) (fun e=>by cases e) (fun i j E F p hi z=>by
   have:=my hs p (by simpa using hi) (by simpa using z)
   simpa using this) ops 0 (Array.replicate ops.toArray.size false) s H C (fun _ _=>DE _) (fun j _ h=>by simp at h;simp[h]) (by simp) (DC.none _) (by simp) (by simpa using hB.2) (by simpa using h)
 have d:R l n B ⟨s,H⟩ a {w with drawn:=w.drawn+1 }:=by
  obtain⟨m,S,v,A,f,y,g⟩:=x.un
  obtain⟨r,t⟩:=v.drew (w':={w with drawn:=w.drawn+1 }) rfl rfl rfl rfl
  exact R.keep r A f y g t
 refine wp_region_any hm (iS (Q:=Q .normal) (fin:=false) (X:=fun _=>False) (fun G D w' b q=>⟨_,q,b⟩) (fun e=>by cases e) (fun e=>by cases e) _ _ _ a _ (DC.none _) d (by simpa using u))
theorem Zx7{id:Nat}{L:List Oper}{o:Oper}{σ:St}{QQ:Exit→Act→World→Prop}{X:St→Prop}(hm:P.follows .mixedOrders=true)(hB:Region.lexB .any (L++[o]).toArray=true)(J:L.all (fun o=>C2 o||B4 o)=true)(hs:Ll (L++[o]) 0 (L++[o])=true)
  (M:∀i,i<L.length→Waits (L++[o]).toArray L.length i) (h:D9 P l n ((L++[o]).map (·.dst)) L X σ) (G:∀σ a w,R l n B σ a w→X σ→wpList P (L++[o]).toArray QQ [o] a w) {a:Act} {w:World} (g:R l n B σ a w):(Code.region id (L++[o]).toArray true).wp P QQ a w:=by
 obtain⟨s,H⟩:=σ
 simp only[Region.lexB,Yc]at hB
 have c:true=true→∀i,i+1<(L++[o]).toArray.size→Waits (L++[o]).toArray ((L++[o]).toArray.size-1) i:=fun _ i hi=>by
  have:=M i (by simpa using hi)
  simpa using this
 have D:=jR (P:=P) (l:=l) (n:=n) (ops:=(L++[o]).toArray) (K:=fun _=>False) (K0:=X) (m:=1) (fin:=true) (X:=X) (fun k b s H V hl hB h=>by
   simp only[Region.lexFrom,Yc]at hB
   have C:k∈Region.ready .any (L++[o]).toArray b:=by simpa using hB.1.1
   refine⟨fun f=>(by rw[f]at C;cases C),fun i hi=>?_⟩
   obtain⟨f,T,d,_⟩:=mem_ready.1 hi
   have y:=hl i f
   have z:i<(L++[o]).toArray.size:=(Y9.1 d).1
   unfold Ft
   simp only[d]
   refine .inr (.inr ?_)
   exact And.intro (by first|rfl|trivial) (And.intro (by omega) h)) c (fun i j T W t hi u=>by
   have:=my hs t (by simpa using hi) (by simpa using u)
   simpa using this) L 0 (Array.replicate (L++[o]).toArray.size false) s H J (fun _ _=>DE _) (fun j _ h=>by simp at h;simp[h]) (by simp) (DC.none _) (fun j u=>by simp[Ys u]) (by simpa using hB.2) (by simpa using h)
 have p:R l n B ⟨s,H⟩ a {w with drawn:=w.drawn+1 }:=by
  obtain⟨m,S,E,I,q,F,r⟩:=g.un
  obtain⟨y,z⟩:=E.drew (w':={w with drawn:=w.drawn+1 }) rfl rfl rfl rfl
  exact R.keep y I q F r z
 refine wp_region_any hm (iS (Q:=fun _=>False) (fin:=true) (X:=X) (fun Y U w' A x=>x.elim) c (fun _ σ a w g N O v=>?_) _ _ _ a _ (DC.none _) p (by simpa using D))
 have e:O=o:=by simpa using v.symm
 subst e
 exact G σ a w g N
end
end Go.Eng
namespace Go.Eng
set_option linter.all false
open Go Go.RowKit
section
variable {P:Program} {T:Nat→Option TI} {r:Ren} {H H':Hp} {g:Option Bool} {a:AT} {K:AV→AT→Prop}
def KR(r:Ren)(K:AV→AT→Prop)(y:AV):Prop:=∃v a,y=ren r v∧K v a
theorem KR.mk{v:AV}{a:AT}(h:K v a):KR r K (ren r v):=⟨v,a,rfl,h⟩
theorem KR.mk'{v y:AV}{a:AT}(h:K v a)(e:y=ren r v):KR r K y:=⟨v,a,e,h⟩
theorem tY{t:TypeId}{i:TI}(hi:TIok P t i)(h:(i.str||i.elm.isSome)=true):JC P t=true:=by
 rw[Yz]at h
 unfold JC
 rcases h with h|h
 ·have:=hi.str h
  unfold LU at this
  split at this
  ·rename_i a _;rw[a]
  ·cases this
 ·obtain⟨e,he⟩:=Fy.1 h
  obtain⟨b,c⟩:=e
  have:=(Fc (hi.elm _ he)).1
  rw[this]
theorem i6{t:TypeId}{i:TI}(hi:TIok P t i)(y:DO r H H')(p:∀b,g=some b→b=true){x:AV}(h:Nd i H x g a K):EN P H' t (ren r x) (KR r K):=by
 unfold Nd at h
 cases x<;>simp only at h<;>try exact h.elim
 case iptr cs off=>
  simp only[ren,EN,hi.agg,hi.siz]
  split at h
  ·rename_i he
   rw[he]
   split at h
   ·rename_i c d f
    obtain⟨m,n⟩:=jO _ _ _ f
    have d:=Yi d
    rw[YU]at n
    exact⟨by omega,by omega,.mk' h (by rw[m,ren,H7])⟩
   grind
  ·rename_i he
   rw[he]
   rw[Cp]at h
   simp only
   split at h
   ·rename_i c o;simp only[o];exact .mk' h rfl
   grind
 case ptr k q off=>
  simp only[ren,EN,hi.agg,hi.siz]
  split at h
  ·rename_i hl
   obtain⟨s,u,z,A,v⟩:=y.at hl
   refine⟨s,u,?_⟩
   rw[v]
   split at h
   ·split at h
    ·rename_i he
     rw[he]
     split at h
     ·rename_i c d f
      obtain⟨m,n⟩:=jO _ _ _ f
      have d:=Yi d
      rw[YU]at n
      exact⟨by omega,by rw[CE];omega,.mk' h (by rw[ren,Fa,FG,m])⟩
     grind
    ·rename_i he
     rw[he]
     rw[Cp]at h
     split at h
     ·rename_i c o;simp only[H6,o,Y7];exact .mk' h rfl
     grind
   ·split at h
    ·rename_i he
     rw[he]
     split at h
     ·rename_i c B d f
      have d:=Yi d
      have f:=Yd f
      have j:Ek _ _ _:=BD p h.1
      unfold Ek at j
      rw[f]at j
      have w:=congrArg List.length j
      rw[Yu,YU]at w
      exact⟨by omega,by rw[CE];omega,.mk' h.2 (by rw[ren,Fa,FG,j])⟩
     grind
    ·rename_i he
     rw[he]
     split at h
     ·rename_i x
      have j:Ek _ _ _:=BD p h.1
      unfold Ek at j
      have e:(H k).cells[off]?=some x:=by
       have:=congrArg (fun l=>l[0]?) j
       grind
      simp only[H6,e,Y7]
      exact .mk' h.2 rfl
     grind
   grind
  ·grind
theorem MQ{t:TypeId}{i:TI}(hi:TIok P t i){f:Nat}{x:Nat×Nat×Bool}(h:Bu i.fld f=some x):fld P t f=some (x.1,x.2.1)∧L8 P t f=some x:=by
 rw[Cp]at h;exact hi.fld f x h
theorem Zhr{t:TypeId}{i:TI}(hi:TIok P t i)(j:DO r H H'){f:Nat}{x:AV}(h:Vj i H f x a K):Fb P H' t f (ren r x) (KR r K):=by
 unfold Vj at h
 split at h
 ·rename_i o n b k
  have e:=(MQ hi k).1
  split at h
  ·rename_i c
   have c:=Yi c
   unfold Fb
   rw[e]
   split at h
   ·simp only[ren];exact⟨by omega,.mk' h rfl⟩
   ·split at h
    ·rename_i hl
     obtain⟨d,g,_⟩:=j.at hl
     simp only[ren];exact⟨by omega,d,g,.mk' h rfl⟩
    grind
   grind
  grind
 grind
theorem ZlB{t:TypeId}{i:TI}(hi:TIok P t i){f:Nat}{x:AV}(h:W6 i f x a K):Fe P t f (ren r x) (KR r K):=by
 unfold W6 at h
 rw[Zwg]
 split at h
 ·rename_i o n cs b
  rw[(MQ hi b).2]
  split at h
  ·rename_i d
   have d:=Yi d
   simp only[ren,Oy]
   exact⟨by omega,.mk' h (by rw[ren,Fa,FG])⟩
  grind
 ·rename_i o n cs b
  rw[(MQ hi b).2]
  rw[Cp]at h
  split at h
  ·rename_i c e
   simp only[ren,Oy,H6,e,Y7]
   exact .mk' h rfl
  grind
 grind
theorem Zhz{t:TypeId}{i:TI}(hi:TIok P t i)(w:DO r H H')(m:∀b,g=some b→b=true){x j:AV}(h:Vg i H x j g a K):EE P H' t (ren r x) (ren r j) (KR r K):=by
 unfold Vg at h
 split at h
 ·rename_i e sz k n he
  have he:=hi.elm _ he
  split at h
  ·rename_i es e' q
   split at h
   ·rename_i c d
    have c:=Yd c
    have d:=Yi d
    obtain⟨f,l⟩:IY _ _ _:=BD m h.1
    simp only[ren,EE,he]
    refine⟨f,?_⟩
    rw[l]
    exact⟨c,by omega,.mk' h.2 rfl⟩
   grind
  ·rename_i k q off len o A
   split at h
   ·rename_i hl c d
    have c:=Yd c
    have d:=Yi d
    obtain⟨p,s,y,u,z⟩:=w.at hl
    obtain⟨f,l,v⟩:LR _ _ _ _ _:=BD m h.1
    simp only[ren,EE,he]
    exact⟨f,l,p,s,by rw[u,c],by omega,.mk' h.2 (by rw[ren,v])⟩
   grind
  grind
 grind
theorem Zlq{t:TypeId}{i:TI}(hi:TIok P t i)(m:∀b,g=some b→b=true){x j:AV}(h:Xx i x j g a K):FJ P t (ren r x) (ren r j) (KR r K):=by
 unfold Xx at h
 split at h
 ·rename_i s k n b q
  split at h
  ·rename_i d
   have d:=Yd d
   obtain⟨e,c,f,l⟩:I3 _ _ _:=BD m h.1
   simp only[ren,FJ]
   refine⟨by rw[hi.kin];exact d,e,?_⟩
   rw[f]
   exact .mk' h.2 (by rw[ren,l])
  grind
 grind
theorem ZqS{op:BinOp}{k:IntKind}{x y:Int}(c:∀b,g=some b→b=true)(h:Un op k x y g a K):Gz op k x y (KR r K):=by
 unfold Un at h
 cases op<;>simp only at h<;>try exact h.elim
 all_goals simp only[Gz]
 case eql=>exact .mk' h rfl
 case neq=>exact .mk' h rfl
 case lss=>exact .mk' h rfl
 case leq=>exact .mk' h rfl
 case gtr=>exact .mk' h rfl
 case geq=>exact .mk' h rfl
 case add|sub|mul=>
  split at h
  ·have e:CB _ _ _:=BD c h.1
   unfold CB at e
   rw[e];exact .mk' h.2 rfl
  ·grind
 case and|or|xor=>
  split at h
  ·have e:BN _ _:=BD c h.1
   unfold BN at e
   rw[e];exact .mk' h.2 rfl
  ·grind
 case quo=>
  split at h
  ·have e:CB _ _ _:=BD c h.2.1
   unfold CB at e
   rw[e];exact⟨BD c h.1,.mk' h.2.2 rfl⟩
  ·grind
 case rem=>
  split at h
  ·have e:BN _ _:=BD c h.2.1
   unfold BN at e
   rw[e];exact⟨BD c h.1,.mk' h.2.2 rfl⟩
  ·grind
 case shr=>
  split at h
  ·have e:BN _ _:=BD c h.2.1
   unfold BN at e
   rw[e];exact⟨BD c h.1,.mk' h.2.2 rfl⟩
  ·grind
 case shl=>
  split at h
  ·have e:CB _ _ _:=BD c h.2.1
   unfold CB at e
   rw[e];exact⟨BD c h.1,.mk' h.2.2 rfl⟩
  ·grind
theorem Zrq{op:BinOp}{x y:ByteArray}(c:∀b,g=some b→b=true)(h:Tp op x y g a K):Gy op x y (KR r K):=by
 unfold Tp at h
 cases op<;>simp only at h<;>try exact h.elim
 all_goals simp only[Gy]
 case add=>exact⟨BD c h.1,.mk' h.2 rfl⟩
 all_goals exact .mk' h rfl
theorem ZjA{neg:Bool}{x:AV}(g:DO r H H')(h:LY H neg x a K):D8 H' neg (ren r x) (KR r K):=by
 unfold LY at h
 split at h
 ·simp only[ren,D8];exact fun b=>.mk' (h b) rfl
 ·rename_i es
  cases es with
  |nil=>simp only[ren,D8];exact fun b=>.mk' (h b (fun e=>absurd rfl e)) rfl
  |cons e es=>simp only[ren,D8];exact .mk' (h neg (fun _=>rfl)) rfl
 ·rename_i k q off n
  split at h
  ·rename_i hl
   obtain⟨d,f,_⟩:=g.at hl
   simp only[ren,D8]
   exact⟨⟨d,f⟩,fun c=>.mk' (h neg (fun _=>rfl)) rfl,fun c b=>.mk' (h b (fun e=>absurd c e)) rfl⟩
  grind
 grind
theorem Zl3:∀(ks:List Nat) (xs ys:List AV) (b:Bool),EM ks xs ys=some b→EM ks (Aq r xs) (Aq r ys)=some b
 |[],[],[],b,h=>by simpa[Aq]using h
 |k::ks,x::xs,y::ys,b,h=>by
  cases x<;>cases y<;>simp only[EM]at h<;>try (cases h;done)
  rename_i x y
  simp only[Aq,ren,EM]
  split at h
  ·rename_i d e a c
   simp only[a,Zl3 ks xs ys _ c]
   exact h
  ·cases h
 |[],[],_::_,b,h=>by simp[EM]at h
 |[],_::_,_,b,h=>by simp[EM]at h
 |_::_,[],_,b,h=>by simp[EM]at h
 |_::_,x::_,[],b,h=>by cases x<;>simp[EM]at h
theorem ZKs{H:Hp}{op:BinOp}{t:TypeId}{a:Bool}{x:AV}{K:AV→Prop}:CK P H op t a x .e0 K=(a=true∧kin P t=4∧match op with|.eql=>D8 H false x K|.neq=>D8 H true x K|_=>False):=by
 unfold CK
 grind
theorem ZqB{t:TypeId}{i:TI}(hi:TIok P t i)(e:DO r H H')(f:∀b,g=some b→b=true){op:BinOp}{j:Bool}{x y:AV}(h:Uo i H op j x y g a K):CK P H' op t j (ren r x) (ren r y) (KR r K):=by
 unfold Uo at h
 split at h
 ·split at h
  ·rename_i c
   simp only[ren,CK]
   exact⟨ZPA c,ZqS f h⟩
  grind
 ·simp only[ren,CK];exact Zrq f h
 ·split at h
  ·rename_i c
   simp only[ren,CK]
   refine⟨by rw[hi.kin];exact Yd c,?_⟩
   split at h
   ·exact .mk' h rfl
   ·exact .mk' h rfl
   grind
  grind
 ·rename_i xs ys
  split at h
  ·rename_i ks d
   split at h
   ·rename_i b l
    simp only[ren,CK,G6,hi.eqt _ d,Zl3 _ _ _ _ l]
    split at h
    ·exact .mk' h rfl
    ·exact .mk' h rfl
    grind
   grind
  grind
 ·rw[show ren r .e0=.e0 from by simp[ren],ZKs]
  split at h
  ·rename_i m k
   refine⟨rfl,by rw[hi.kin];exact Yd k,?_⟩
   split at h
   ·exact ZjA e h
   ·exact ZjA e h
   grind
  grind
 grind
theorem ZwC{op:UnOp}{x:AV}(c:∀b,g=some b→b=true)(h:X3 op x g a K):EX op (ren r x) (KR r K):=by
 unfold X3 at h
 split at h
 ·simp only[ren,EX];exact .mk' h rfl
 ·split at h
  ·have e:CB _ _ _:=BD c h.1
   unfold CB at e
   simp only[ren,EX]
   rw[e];exact .mk' h.2 rfl
  grind
 ·split at h
  ·have e:BN _ _:=BD c h.1
   unfold BN at e
   simp only[ren,EX]
   rw[e];exact .mk' h.2 rfl
  grind
 grind
theorem Zm9{s d:TypeId}{i j:TI}(hi:TIok P s i)(k:TIok P d j){x:AV}(l:∀b,g=some b→b=true)(h:RQ i j x g a K):Ff P s d (ren r x) (KR r K):=by
 unfold RQ at h
 split at h
 ·split at h
  ·rename_i q n p k' o m t c f
   have e:CB _ _ _:=BD l h.1
   unfold CB at e
   simp only[ren,Ff,hi.ik _ c,k.ik _ f]
   rw[e];exact .mk' h.2 rfl
  grind
 ·split at h
  ·rename_i c f
   simp only[ren,Ff,H3 (by rw[hi.kin];exact Yd c),H3 (by rw[k.kin];exact Yd f)]
   exact .mk' h rfl
  grind
 grind
theorem MN{d l:Nat}{o a:Option AV}(h:Dg d o l)(b:a=o.map (ren r)):Ew d a=some l:=by
 subst b
 unfold Dg at h
 split at h
 ·simp[Ew,h]
 ·subst h
  simp[Ew,ren]
 grind
theorem ZlC{t:TypeId}{i:TI}(hi:TIok P t i)(B:DO r H H')(c:∀b,g=some b→b=true){x:AV}{lo q:Option AV}{v:Bool}(h:WG i H x lo q v g a K):
  EH P H' t (ren r x) (lo.map (ren r)) (q.map (ren r)) v (KR r K):=by
 unfold WG at h
 split at h
 ·split at h
  ·split at h
   ·rename_i C
    obtain⟨m,n,o,p⟩:=h
    have f:=MN (r:=r) (BD c m) rfl
    have j:=MN (r:=r) (BD c n) rfl
    have d:EZ _ _ _:=BD c o
    simp only[ren,EH,f,j]
    exact⟨by rw[hi.kin];exact Yd C,trivial,d.1,d.2,.mk' p rfl⟩
   grind
  ·split at h
   ·rename_i e sz w D he
    split at h
    ·rename_i l
     have l:=Yi l
     obtain⟨m,n,o,p,u⟩:=h
     have f:=MN (r:=r) (BD c m) rfl
     have j:=MN (r:=r) (BD c n) rfl
     have d:EZ _ _ _:=BD c o
     have k:NR _ _ _ _ _:=BD c p
     simp only[ren,EH,f,j,hi.elm _ he]
     exact⟨trivial,by omega,k.1,d.1,d.2,.mk' u (by rw[ren,k.2])⟩
    grind
   grind
  ·split at h
   ·rename_i e sz I G D he hl
    split at h
    ·rename_i l s
     have l:=Yi l
     obtain⟨y,z,E,A,F⟩:=B.at hl
     obtain⟨m,n,o,p,u⟩:=h
     have f:=MN (r:=r) (BD c m) rfl
     have j:=MN (r:=r) (BD c n) rfl
     have d:EZ _ _ _:=BD c o
     have k:Zr _ _ _ _ _:=BD c p
     simp only[ren,EH,f,j,hi.elm _ he]
     exact⟨trivial,y,z,by omega,by rw[A];exact Yd s,d.1,d.2,.mk' u (by rw[ren,k.1,k.2])⟩
    grind
   grind
  grind
 grind
theorem Zrh{t:TypeId}{i:TI}(hi:TIok P t i)(k:DO r H H')(d:∀b,g=some b→b=true){x:AV}(h:T1 i H x g a K):D3 P H' t (ren r x) (KR r K):=by
 unfold T1 at h
 split at h
 ·split at h
  ·rename_i c
   have e:BN _ _:=BD d h.1
   unfold BN at e
   simp only[ren,D3,hi.kin]
   exact⟨Yd c,.mk' h.2 (by rw[ren,e])⟩
  grind
 ·split at h
  ·rename_i c
   have e:BN _ _:=BD d h.1
   unfold BN at e
   simp only[ren,D3,hi.kin]
   exact⟨Yd c,.mk' h.2 (by rw[ren,e])⟩
  grind
 ·split at h
  ·rename_i c
   have e:BN _ _:=BD d h.1
   unfold BN at e
   simp only[ren,D3,hi.kin]
   exact⟨Yd c,.mk' h.2 (by rw[ren,e])⟩
  grind
 ·split at h
  ·rename_i c hl
   have e:BN _ _:=BD d h.1
   unfold BN at e
   obtain⟨f,j,_⟩:=k.at hl
   simp only[ren,D3,hi.kin]
   exact⟨Yd c,f,j,.mk' h.2 (by rw[ren,e])⟩
  grind
 grind
theorem Zru(a:DO r H H'){x:AV}{y:Bool×List (List D)}(h:qz H x=some y):Nr H' (ren r x)=some y:=by
 unfold qz at h
 split at h
 ·simp only[ren,Nr];exact h
 ·split at h
  ·rename_i k g _ _ q es hl he
   obtain⟨b,c,d,_,_⟩:=a.at hl
   simp only[ren,Nr]
   grind
  ·cases h
 ·cases h
theorem V3(q:Bool)(ds:List D):ren r (Hl q ds)=Hl q ds:=by
 unfold Hl
 split<;>simp[ren,H7]
theorem ZId(a q:Bool)(ds:List D)(ok:Bool):ren r (NC a q ds ok)=NC a q ds ok:=by
 unfold NC
 cases a
 ·exact V3 q ds
 ·simp only[ren,Aq,V3]
theorem ZnF{t:TypeId}{i:TI}(hi:TIok P t i)(k:DO r H H')(l:∀b,g=some b→b=true){x y:AV}{c:Bool}(h:S8 i H x y c g a K):Gn P H' t (ren r x) (ren r y) c (KR r K):=by
 unfold S8 at h
 split at h
 ·rename_i q z o es s ok vs n f j
  split at h
  ·rename_i m
   obtain⟨d,e⟩:Qt _ _ _ _ _:=BD l h.1
   simp only[Gn,hi.mp _ f,Zru k j,ren]
   exact⟨ll m,.mk' h.2 (by rw[d,e,ZId])⟩
  grind
 grind
theorem O7{x:AV}{vs:List AV}(h:C1 x=some vs)(a:∀f xs ys,x≠.fn (.yield f) xs ys):C1 (ren r x)=some (Aq r vs):=by
 cases x<;>simp only[C1,Ym]at h<;>try (cases h;done)
 case fn f xs ys=>
  subst h
  cases f with
  |yield i=>exact absurd rfl (a i xs ys)
  |_=>simp[ren,Aq,C1]
 all_goals(subst h;simp[ren,Aq,C1])
theorem Ps{x:AV}(h:IQ x=true):∀f xs ys,x≠.fn (.yield f) xs ys:=by
 rintro f xs ys rfl;cases h
theorem ZRY{t:TypeId}{i:TI}(hi:TIok P t i){f o n:Nat}(h:re i f=some (o,n)):fld P t f=some (o,n):=by
 unfold re at h
 split at h
 ·rename_i d c b a
  simp only[Ym,GK]at h
  obtain⟨rfl,rfl⟩:=h
  exact(MQ hi a).1
 ·cases h
theorem Zid{t:TypeId}{i:TI}(hi:TIok P t i):∀(ps:List (Nat×AV)) (z cs:List AV),(∀p∈ps,IQ p.2=true)→Qw i z ps=some cs→CA (fld P t) (Aq r z) (ps.map fun p=>(p.1,ren r p.2))=some (Aq r cs)
 |[],z,cs,_,h=>by
  simp only[Qw,Ym]at h
  subst h
  simp[CA]
 |(f,v)::ps,z,cs,e,h=>by
  simp only[Qw]at h
  split at h
  ·rename_i off size vs a g
   split at h
   ·rename_i c d
    have c:=Yd c
    have d:=Yi d
    have b:=O7 (r:=r) g (Ps (e (f,v) (YT ..)))
    simp only[YZ,CA,ZRY hi a,b,CE]
    rw[Yf (by omega)]
    have:=Zid hi ps _ cs (fun p a=>e p (YP _ a)) h
    rw[←this]
    simp only[GT,FG,Fa]
   ·cases h
  ·cases h
theorem Zmq{t:TypeId}{i:TI}(hi:TIok P t i){parts:List (Nat×AV)}(e:∀p∈parts,IQ p.2=true)(f:∀z,i.zer=some z→Aq r z=z)(h:V9 i parts a K):
  FL P t (parts.map fun p=>(p.1,ren r p.2)) (KR r K):=by
 unfold V9 at h
 split at h
 ·rename_i z c b
  split at h
  ·rename_i cs d
   have:=Zid (r:=r) hi _ _ _ e d
   unfold FL
   rw[hi.zer _ b]
   rw[f z b]at this
   simp only[this]
   exact⟨hi.str c,.mk' h rfl⟩
  grind
 grind
theorem ZAf{x:AV}(h:x.flat=true):ren r x=x:=by cases x<;>first|(simp[ren];done)|cases h
theorem KM{z:List AV}(h:z.all AV.flat=true):Aq r z=z:=by
 induction z with
 |nil=>simp[Aq]
 |cons x z a=>
  simp only[IM,Yc]at h
  rw[Aq,ZAf h.1,a h.2]
theorem ZiL{c x y:Operand}{ρ d:Operand→AV}{t:Bool}(e:ρ c=.d (.bool t))(b:d c=ren r (ρ c))(f:t=true→d x=ren r (ρ x))(hy:t=false→d y=ren r (ρ y))(h:tV T H (.pick c x y) ρ g a K):
  Bb P H' (.pick c x y) d (KR r K):=by
 simp only[tV,e]at h
 rw[e]at b
 simp only[ren]at b
 simp only[Bb,b]
 rw[ZA8]at h
 cases t
 ·exact .mk' h (by simp[hy rfl])
 ·exact .mk' h (by simp[f rfl])
theorem kr{ρ a:Operand→AV}{xs:List Operand}(h:∀x∈xs,a x=ren r (ρ x)):xs.map a=Aq r (xs.map ρ):=by
 rw[FH,IP]
 exact FD h
theorem ZoU{ρ a:Operand→AV}{o:Option Operand}(h:∀x,o=some x→a x=ren r (ρ x)):o.map a=(o.map ρ).map (ren r):=by
 cases o with
 |none=>rfl
 |some x=>simp[h x rfl]
theorem Zle{r:Ren}{b:Bool}{x y:AV}{a:AT}{K:AV→AT→Prop}(h:EA b x y (fun v=>K v a)):EA b (ren r x) (ren r y) (KR r K):=by
 unfold EA at h
 split at h
 ·simp only[ren,EA];exact .mk' h rfl
 grind
theorem ZCA(w:Bg P T)(D:DO r H H')(B:∀b,g=some b→b=true){op:Op}{ρ A:Operand→AV}(Z:∀x∈op.operands,A x=ren r (ρ x))(h:tV T H op ρ g a K):Bb P H' op A (KR r K):=by
 have get:∀{x:Operand},x∈op.operands→A x=ren r (ρ x):=fun l=>Z _ l
 cases op<;>simp only[tV]at h<;>try exact h.elim
 case move x=>exact .mk' h (get (by simp[Op.operands]))
 case assign x=>exact .mk' h (get (by simp[Op.operands]))
 case pick c x y=>
  split at h
  ·rename_i t m
   exact ZiL (a:=a) (g:=g) (T:=T) (H:=H) m (get (by simp[Op.operands])) (fun _=>get (by simp[Op.operands])) (fun _=>get (by simp[Op.operands])) (by simp only[tV,m];exact h)
  ·grind
 case load t x=>
  split at h
  ·rename_i i hi;simp only[Bb];rw[get (x:=x) (by simp[Op.operands])];exact i6 (w _ _ hi) D B h
  ·grind
 case fieldAddr t x f=>
  split at h
  ·rename_i i hi;simp only[Bb];rw[get (x:=x) (by simp[Op.operands])];exact Zhr (w _ _ hi) D h
  ·grind
 case field t x f=>
  split at h
  ·rename_i i hi;simp only[Bb];rw[get (x:=x) (by simp[Op.operands])];exact ZlB (w _ _ hi) h
  ·grind
 case indexAddr t x j=>
  split at h
  ·rename_i i hi;simp only[Bb];rw[get (x:=x) (by simp[Op.operands]),get (x:=j) (by simp[Op.operands])];exact Zhz (w _ _ hi) D B h
  ·grind
 case index t x j=>
  split at h
  ·rename_i i hi;simp only[Bb];rw[get (x:=x) (by simp[Op.operands]),get (x:=j) (by simp[Op.operands])];exact Zlq (w _ _ hi) B h
  ·grind
 case makeInterface t x=>
  split at h
  case h_2=>exact h.elim
  rename_i i hi
  have F:(i.str||i.elm.isSome)=true→JC P t=true:=tY (w _ _ hi)
  simp only[Bb]
  rw[get (x:=x) (by simp[Op.operands])]
  split at h
  ·rename_i xs E l
   rw[l]
   simp only[ren]
   split at h
   case h_2=>exact h.elim
   rename_i ds O
   have e:=VU O
   subst e
   rw[H7,O]
   exact⟨F E,.mk' h rfl⟩
  ·rename_i y E l
   rw[l]
   simp only[ren]
   exact⟨F E,.mk' h rfl⟩
  ·exact h.elim
 case typeAssert x u t ok=>
  split at h
  case h_2=>exact h.elim
  rename_i i hi
  have F:(i.str||i.elm.isSome)=true→JC P t=true:=tY (w _ _ hi)
  simp only[Bb]
  rw[get (x:=x) (by simp[Op.operands])]
  split at h
  case h_2=>exact h.elim
  rename_i u ds q E l
  rw[l]
  simp only[ren]
  split at h
  case h_2=>exact h.elim
  rename_i v X G
  rw[G]
  have I:ren r v=v:=by
   cases q with
   |true=>cases G;simp only[ren,H7]
   |false=>
    match ds,G with
    |[d],G=>cases G;simp only[ren]
  refine⟨F E,Yd X,.mk' h ?_⟩
  cases ok with
  |true=>simp only[cond,ren,Aq,I]
  |false=>exact I.symm
 case extract x j=>
  simp only[Bb]
  rw[get (x:=x) (by simp[Op.operands])]
  split at h
  ·rename_i vs l
   rw[l]
   simp only[ren,H6]
   rw[Cp]at h
   split at h
   ·rename_i y hy;rw[hy];exact .mk' h rfl
   grind
  ·grind
 case binOp o t x y u=>
  split at h
  ·rename_i i hi;simp only[Bb];rw[get (x:=x) (by simp[Op.operands]),get (x:=y) (by simp[Op.operands])];exact ZqB (w _ _ hi) D B h
  ·grind
 case unOp o t x=>simp only[Bb];rw[get (x:=x) (by simp[Op.operands])];exact ZwC B h
 case nilCheck x=>
  split at h
  ·rename_i k q off l
   split at h
   ·rename_i hl
    simp only[Bb]
    rw[get (x:=x) (by simp[Op.operands]),l]
    obtain⟨g1,Q,_,_,_⟩:=D.at hl
    simp only[ren,IW]
    exact⟨g1.symm▸rfl,Q,.mk' h (by simp[ren])⟩
   grind
  ·rename_i cs off l
   simp only[Bb]
   rw[get (x:=x) (by simp[Op.operands]),l]
   simp only[ren,IW]
   exact .mk' h (by simp[ren])
  ·grind
 case convert s d x=>
  split at h
  ·rename_i i j hi V;simp only[Bb];rw[get (x:=x) (by simp[Op.operands])];exact Zm9 (w _ _ hi) (w _ _ V) B h
  ·grind
 case makeFunc fn first C=>
  have n:first.toList.map A=Aq r (first.toList.map ρ):=kr fun x l=>get (by simp only[Op.operands,N8];exact .inl (by simpa using l))
  have J:C.toList.map A=Aq r (C.toList.map ρ):=kr fun x l=>get (by simp only[Op.operands,N8];exact .inr (by simpa using l))
  simp only[Bb]
  rw[n,J]
  split at h
  ·grind
  ·rename_i M
   refine .mk' h ?_
   cases fn<;>first|exact absurd rfl (M _)|simp[ren]
 case slice t x lo hi mx=>
  split at h
  ·rename_i i L
   simp only[Bb]
   rw[get (x:=x) (by simp[Op.operands]),ZoU (o:=lo) (fun y hy=>get (by subst hy;simp[Op.operands])),ZoU (o:=hi) (fun y hy=>get (by subst hy;simp[Op.operands]))]
   exact ZlC (w _ _ L) D B h
  ·grind
 case build t parts=>
  split at h
  ·rename_i i hi F
   simp only[Bb]
   have e:(parts.toList.map fun p=>(p.1,A p.2))=(parts.toList.map fun p=>(p.1,ρ p.2)).map fun p=>(p.1,ren r p.2):=by
    rw[IP]
    refine FD fun p N=>?_
    simp only[Function.comp]
    rw[get (x:=p.2) (by simp only[Op.operands,N9,YX];exact⟨p,N,rfl⟩)]
   rw[e]
   refine Zmq (w _ _ hi) (fun p N=>?_) (fun z Y=>KM ((w _ _ hi).flt z Y)) h
   obtain⟨q,hq,rfl⟩:=YX.1 N
   grind
  ·grind
 case lookup t x y ck=>
  split at h
  ·rename_i i hi;simp only[Bb];rw[get (x:=x) (by simp[Op.operands]),get (x:=y) (by simp[Op.operands])];exact ZnF (w _ _ hi) D B h
  ·grind
 case call c=>
  split at h
  ·rename_i x t m l W
   split at h
   ·rename_i i hi
    have n:c.args=#[x]:=CZ (by simpa using l)
    have J:c.argTypes=#[t]:=CZ (by simpa using W)
    simp only[Bb,m,n,J]
    show 1=1∧D3 P H' t (A x) (KR r K)
    rw[get (x:=x) (by simp[Op.operands,Call.operands,m,n])]
    exact⟨rfl,Zrh (w _ _ hi) D B h⟩
   grind
  ·rename_i x y m l
   have n:c.args=#[x,y]:=CZ (by simpa using l)
   simp only[Bb,m,n]
   show EA false (A x) (A y) (KR r K)
   rw[get (x:=x) (by simp[Op.operands,Call.operands,m,n]),get (x:=y) (by simp[Op.operands,Call.operands,m,n])]
   exact Zle h
  ·rename_i x y m l
   have n:c.args=#[x,y]:=CZ (by simpa using l)
   simp only[Bb,m,n]
   show EA true (A x) (A y) (KR r K)
   rw[get (x:=x) (by simp[Op.operands,Call.operands,m,n]),get (x:=y) (by simp[Op.operands,Call.operands,m,n])]
   exact Zle h
  ·rename_i x y z m l
   have n:c.args=#[x,y,z]:=CZ (by simpa using l)
   simp only[Bb,m,n]
   show G8 true (A x) (A y) (A z) (KR r K)
   rw[get (x:=x) (by simp[Op.operands,Call.operands,m,n]),get (x:=y) (by simp[Op.operands,Call.operands,m,n]),get (x:=z) (by simp[Op.operands,Call.operands,m,n])]
   unfold G8 at h
   split at h
   ·rename_i R S U
    rw[R,S,U]
    simp only[ren,G8];exact .mk' h rfl
   grind
  ·grind
end
abbrev CT:=List (Nat×Bool)
abbrev BZ:=List (Nat×CT)
def lk:BZ→Nat→CT
 |[],_=>[]
 |(i,c)::r,j=>match Nat.beq i j with|true=>c|false=>lk r j
def Oq(t:Bool):Bool→Bool
 |true=>t
 |false=>!t
theorem jg{t b:Bool}:Oq t b=true↔t=b:=by cases t<;>cases b<;>simp[Oq]
def J0:CT→CT→Bool
 |[],[]=>true
 |(i,a)::r,(j,b)::q=>Nat.beq i j&&Oq a b&&J0 r q
 |_,_=>false
theorem ke:∀{a b:CT},J0 a b=true→a=b
 |[],[],_=>rfl
 |(i,a)::r,(j,b)::q,h=>by
  simp only[J0,Yc]at h
  rw[Yd h.1.1,jg.1 h.1.2,ke h.2]
 |[],_::_,h=>by simp[J0]at h
 |_::_,[],h=>by simp[J0]at h
def Tk(a:CT):CT→Bool
 |[]=>J0 a []
 |q::b=>J0 a (q::b)||Tk a b
theorem ZpF{a:CT}:∀{b:CT},Tk a b=true→∀q∈a,q∈b
 |[],h,q,c=>by rw[ke h]at c;exact c
 |p::b,h,q,c=>by
  simp only[Tk,Yz]at h
  rcases h with h|h
  ·rw[ke h]at c;exact c
  ·exact YP _ (ZpF h q c)
def C8(s:Nat→AV)(c:CT):Prop:=∀q∈c,s q.1=.d (.bool q.2)
def GX(s:Nat→AV):CT→Option Bool
 |[]=>some true
 |[(d,b)]=>match s d with|.d (.bool t)=>some (Oq t b)|_=>none
 |(d,b)::r=>match s d,GX s r with|.d (.bool t),some c=>some (c&&Oq t b)|_,_=>none
theorem My{s:Nat→AV}:∀{c:CT} {g:Bool},GX s c=some g→(g=true↔C8 s c)
 |[],g,h=>by simp only[GX,Ym]at h;subst h;simp[C8]
 |[(d,b)],g,h=>by
  simp only[GX]at h
  split at h
  ·rename_i t f
   simp only[Ym]at h
   subst h
   rw[jg]
   simp[C8,f]
  ·cases h
 |(d,b)::q::r,g,h=>by
  simp only[GX]at h
  split at h
  ·rename_i t c f i
   simp only[Ym]at h
   subst h
   have j:=My i
   rw[Yc,j,jg]
   constructor
   ·rintro⟨e,rfl⟩ p a
    rcases YI.1 a with rfl|a
    ·exact f
    ·exact e p a
   ·intro e
    refine⟨fun p a=>e p (YP _ a),?_⟩
    have:=e (d,b) (YT ..)
    grind
  ·cases h
def Na(e:Nat)(c:CT):Bool:=c.all fun q=>!Nat.beq q.1 e
def fresh(e:Nat)(env:BZ):Bool:=env.all fun p=>Na e p.2
theorem ZnN{s:Nat→AV}{e:Nat}{v:AV}{c:CT}(h:Na e c=true):C8 (upd s e v) c↔C8 s c:=by
 have key:∀q∈c,upd s e v q.1=s q.1:=fun q a=>by
  have:=Yw.1 h q a
  unfold upd
  rw[Yf]
  intro he
  subst he
  simp at this
 constructor
 ·exact fun h q a=>(key q a)▸h q a
 ·exact fun h q a=>(key q a).trans (h q a)
theorem ZoR{e:Nat}:∀{env:BZ},fresh e env=true→∀j,Na e (lk env j)=true
 |[],_,j=>rfl
 |(i,c)::r,h,j=>by
  simp only[fresh,IM,Yc]at h
  simp only[lk]
  split
  ·exact h.1
  ·exact ZoR h.2 j
theorem kc{env:BZ}{e:Nat}{c:CT}(j:Nat):lk ((e,c)::env) j=if j=e then c else lk env j:=by
 simp only[lk]
 by_cases h:j=e
 ·subst h;simp
 ·rw[Yf h]
  split
  ·rename_i a;exact absurd (Yd a).symm h
  ·rfl
def Im(env:BZ)(c:CT):Operand→Bool
 |.tmp t=>Tk (lk env t) c
 |_=>true
def Cg(env:BZ)(c:CT):Op→Bool
 |.pick (.tmp d) x y=>Im env c (.tmp d)&&Im env ((d,true)::c) x&&Im env ((d,false)::c) y
 |op=>op.operands.toList.all (Im env c)
structure RenOk (r:Ren) (l outs:Nat):Prop where
 own:∀d,r.κ (1,d)=(l+1,d)
 out:∀i,i<outs→(r.κ (0,i)).1≤l
 inj:∀i j,i<outs→j<outs→r.κ (0,i)=r.κ (0,j)→i=j
 no:∀k,r.no k→∃i,i<outs∧r.κ (0,i)=k
structure RG (r:Ren) (l outs:Nat) (env:BZ) (τ σ:St):Prop where
 s:∀j,(C8 τ.s (lk env j)→σ.s j=ren r (τ.s j))∧(¬C8 τ.s (lk env j)→σ.s j=.tup [])
 h:DO r τ.H σ.H
 g:∀d,(σ.H (l+1,d)).g=r.γ (1,d)+(τ.H (1,d)).g
 go:∀i,i<outs→(σ.H (r.κ (0,i))).g=r.γ (0,i)+(τ.H (0,i)).g
 k:∀k,(τ.H k).live=true→k.1=1∨(k.1=0∧k.2<outs)
 o:∀k:Ad,k.1≤l→¬r.no k→σ.H k=r.H0 k
def Ih(P:Program)(l:Nat)(r:Ren)(f:FuncId)(xs:List AV)(c:List (Ad×Blk))(x:AV):Prop:=
 ∀a,(∀p∈c,p.2.live=true→a (r.κ p.1)=AL r p.1 p.2)→(∀k:Ad,k.1≤l→¬r.no k→a k=r.H0 k)→ZcW P f (l+1) (Aq r xs) a (fun y b=>y=ren r x∧b=a)
def Qc(P:Program)(l:Nat)(r:Ren)(i:Nat)(xs:List AV)(d:List (Ad×Blk))(x:AV):Prop:=
 ∃f first a,r.θ i=.fn (.func f) first a∧∀b,(∀p∈d,p.2.live=true→b (r.κ p.1)=AL r p.1 p.2)→(∀k:Ad,k.1≤l→¬r.no k→b k=r.H0 k)→ZcW P f (l+1) (first++Aq r xs++a) b (fun y c=>y=ren r x∧c=b)
def SO(P:Program)(l:Nat)(r:Ren)(H:Hp)(f:AV)(xs:List AV)(g:Option Bool)(a:AT)(K:AV→AT→Prop):Prop:=
 match f,a with
 |.fn (.func i) first b,.call x ks a=>Bp g (Ih P l r i (first++xs++b) (ks.map fun k=>(k,H k)) x)∧K x a
 |.fn (.yield i) _ _,.call x ks a=>Bp g (Qc P l r i xs (ks.map fun k=>(k,H k)) x)∧K x a
 |_,_=>False
def XS(T:Nat→Option TI)(τ:St)(t:TypeId)(len:Nat)(parts:List (Nat×Operand))(a:AT)(K:AV→AT→Prop):Prop:=
 match T t with
 |some i=>(match i.elm with
  |some (e,sz)=>(match Nat.ble 1 sz,len with
   |true,0=>(match parts with|[]=>K .e0 a|_=>False)
   |true,len+1=>(match T e,Nat.ble ((len+1)*sz) 16777216 with
    |some j,true=>(match j.zer with
     |some z=>(match Nat.beq z.length sz,F8 sz 0 (parts.map fun p=>(p.1,ev τ.s p.2))with
      |true,some es=>(match Nat.beq es.length (len+1)with|true=>K (.d (.list es)) a|false=>False)
      |_,_=>False)
     |none=>False)
    |_,_=>False)
   |_,_=>False)
  |none=>False)
 |none=>False
def pV(P:Program)(T:Nat→Option TI)(l:Nat)(r:Ren)(τ:St)(op:Op)(g:Option Bool)(a:AT)(K:AV→AT→Prop):Prop:=
 match op with
 |.call c=>match c.callee with
  |.value f=>SO P l r τ.H (ev τ.s f) (c.args.toList.map (ev τ.s)) g a K
  |_=>tV T τ.H op (ev τ.s) g a K
 |.buildSlice t len parts=>XS T τ t len parts.toList a K
 |op=>tV T τ.H op (ev τ.s) g a K
def Fi(n d:Nat)(K:St→AT→Prop)(τ:St)(v:AV)(a:AT):Prop:=
 match Nat.ble (d+1) n with
 |true=>K ⟨upd τ.s d v,τ.H⟩ a
 |false=>False
section
variable {P:Program} {T:Nat→Option TI} {r:Ren} {l n outs:Nat} {env:BZ} {τ σ:St} {g:Option Bool} {a:AT} {c:CT}
theorem ZP8(v:Value):ren r (cv v)=cv v:=by unfold cv;split<;>simp[ren]
theorem KV(h:RG r l outs env τ σ)(hs:C8 τ.s c){x:Operand}(b:Im env c x=true):ev σ.s x=ren r (ev τ.s x):=by
 cases x with
 |tmp t=>exact(h.s t).1 fun q a=>hs q (ZpF b q a)
 |const v=>exact(ZP8 v).symm
 |global g=>simp[ev,ren]
 |func f=>simp[ev,ren,Aq]
theorem Gj(h:RG r l outs env τ σ)(hs:C8 τ.s c){op:Op}(a:op.operands.toList.all (Im env c)=true):∀x∈op.operands,ev σ.s x=ren r (ev τ.s x):=
 fun x hm=>KV h hs (Yw.1 a x (by simpa using hm))
theorem wE(u:Bg P T)(h:RG r l outs env τ σ)(hs:C8 τ.s c)(v:∀b,g=some b→b=true){op:Op}(i:Cg env c op=true){K:AV→AT→Prop}(j:tV T τ.H op (ev τ.s) g a K):
  Bb P σ.H op (ev σ.s) (KR r K):=by
 unfold Cg at i
 split at i
 ·rename_i d x y
  simp only[Yc]at i
  obtain⟨⟨o,p⟩,s⟩:=i
  have f:=j
  simp only[tV]at f
  split at f
  ·rename_i t m
   have n:=KV h hs o
   refine ZiL (T:=T) (H:=τ.H) (g:=g) (a:=a) m n (fun e=>KV h (c:=(d,true)::c) ?_ p) (fun e=>KV h (c:=(d,false)::c) ?_ s) j
   all_goals
    subst e
    intro q k
    rcases YI.1 k with rfl|k
    ·exact m
    ·exact hs q k
  grind
 ·exact ZCA u h.h v (Gj h hs i) j
theorem jf(h:RG r l outs env τ σ)(hs:C8 τ.s c)(t:∀b,g=some b→b=true){cl:Call}{f:Operand}(q:cl.callee=.value f)(m:Cg env c (.call cl)=true){K:AV→AT→Prop}
  (e:SO P l r τ.H (ev τ.s f) (cl.args.toList.map (ev τ.s)) g a K):
  ∃i first d x j,ev σ.s f=.fn (.func i) first d∧ZcW P i (l+1) (first++cl.args.toList.map (ev σ.s)++d) σ.H (fun y u=>y=ren r x∧u=σ.H)∧K x j:=by
 have m:(Op.call cl).operands.toList.all (Im env c)=true:=m
 have s:=Gj h hs m f (by simp[Op.operands,Call.operands,q])
 have n:cl.args.toList.map (ev σ.s)=Aq r (cl.args.toList.map (ev τ.s)):=kr fun x hm=>Gj h hs m x (by simp only[Op.operands,Call.operands,q,N8];exact .inr (by simpa using hm))
 have o:∀ks:List Ad,∀p∈ks.map fun k=>(k,τ.H k),p.2.live=true→σ.H (r.κ p.1)=AL r p.1 p.2:=fun ks p e hl=>by
  obtain⟨k,B,rfl⟩:=YX.1 e
  exact h.h k hl
 unfold SO at e
 split at e
 ·rename_i i first d x ks j he
  have w:Ih _ _ _ _ _ _ _:=BD t e.1
  refine⟨i,Aq r first,Aq r d,x,j,by rw[s,he];simp[ren],?_,e.2⟩
  rw[n,←GT,←GT]
  exact w σ.H (o ks) h.o
 ·rename_i i xs ys x ks j he
  obtain⟨v,first,d,z,A⟩:Qc _ _ _ _ _ _ _:=BD t e.1
  refine⟨v,first,d,x,j,by rw[s,he];simp[ren,z],?_,e.2⟩
  rw[n]
  exact A σ.H (o ks) h.o
 grind
theorem RG.put(h:RG r l outs env τ σ){e:Nat}{ch:CT}(b:fresh e env=true)(c:Na e ch=true){v:AV}{y:AV}(hy:C8 τ.s ch→y=ren r v)(d:¬C8 τ.s ch→y=.tup []):
  RG r l outs ((e,ch)::env) ⟨upd τ.s e v,τ.H⟩ ⟨upd σ.s e y,σ.H⟩:=by
 refine⟨fun j=>?_,h.h,h.g,h.go,h.k,h.o⟩
 simp only
 rw[kc]
 by_cases a:j=e
 ·subst a
  rw[Yg rfl,ZnN c]
  simp only[upd,Yr]
  grind
 ·rw[Yf a,ZnN (ZoR b j)]
  simp only[upd,Yf a]
  exact h.s j
end
end Go.Eng
