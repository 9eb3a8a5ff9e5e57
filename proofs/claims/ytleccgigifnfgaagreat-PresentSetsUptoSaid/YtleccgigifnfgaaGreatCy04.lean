import Derived.Test.YtleccgigifnfgaaGreatCy03
import Derived.Test.YtleccgigifnfgaaGreatCy00
namespace Go.Eng
open Go
set_option linter.all false
inductive Waits (ops:Array Oper):Nat→Nat→Prop
 |one {j i:Nat} {oj:Oper} {e:Edge} (hj:ops[j]?=some oj) (he:e∈oj.after) (hb:Region.binds .any e=true) (hi:e.on=i):Waits ops j i
 |more {j m i:Nat} {oj:Oper} {e:Edge} (hj:ops[j]?=some oj) (he:e∈oj.after) (hb:Region.binds .any e=true) (hm:e.on=m) (h:Waits ops m i):Waits ops j i
def NB(L:List Oper)(i:Nat):Nat→Nat→Bool
 |0,_=>false
 |a+1,j=>match Bj L j with|some b=>b.after.toList.any fun e=>Region.binds .any e&&(Nat.beq e.on i||NB L i a e.on)|none=>false
theorem cI{L:List Oper}{i:Nat}:∀(a j:Nat),NB L i a j=true→Waits L.toArray j i
 |0,j,h=>by cases h
 |a+1,j,h=>by
  unfold NB at h
  rw[BY]at h
  split at h
  ·rename_i f d
   obtain⟨e,he,h⟩:=YW.1 h
   rw[Ya,Yj]at h
   have c:L.toArray[j]?=some f:=by simpa using d
   rcases h.2 with b|b
   ·exact .one c (by simpa using he) h.1 (Yc b)
   ·exact .more c (by simpa using he) h.1 rfl (cI a _ b)
  ·cases h
def DC(ops:Array Oper)(a:Array Bool):Prop:=∀(m:Nat) (b:Oper),ops[m]?=some b→a.getD m false=true→∀e∈b.after,Region.binds .any e=true→a.getD e.on false=true
theorem DC.waits{ops:Array Oper}{a:Array Bool}(h:DC ops a){j i:Nat}(d:Waits ops j i):a.getD j false=true→a.getD i false=true:=by
 induction d with
 |one c he b hi=>intro hl;rw[←hi];exact h _ _ c hl _ he b
 |more c he b hm _ e=>intro hl;exact e (by rw[←hm];exact h _ _ c hl _ he b)
theorem ZDP{a:Array Bool}{i:Nat}(h:a.getD i true=false):a.getD i false=false:=by
 grind
theorem DC.ready{ops:Array Oper}{a:Array Bool}(h:DC ops a){j:Nat}(g:j∈Region.ready .any ops a):DC ops (a.setIfInBounds j true):=by
 obtain⟨k,l,d,b⟩:=mem_ready.1 g
 intro m i hm hl e he f
 by_cases c:j=m
 ·subst c
  rw[d]at hm
  cases hm
  exact getD_set_true (b e he f)
 ·rw[getD_set_ne false c]at hl
  exact getD_set_true (h m i hm hl e he f)
theorem DC.nowait{ops:Array Oper}{a:Array Bool}(h:DC ops a){j i:Nat}(k:j∈Region.ready .any ops a)(hi:a.getD i true=false):¬Waits ops j i:=fun l=>by
 obtain⟨m,n,d,c⟩:=mem_ready.1 k
 have hi:=ZDP hi
 cases l with
 |one b he f g=>
  grind
 |more b he f hm e=>
  rw[d]at b
  cases b
  have:=h.waits e (by rw[←hm];exact c _ he f)
  grind
def BL(o:Oper):Bool:=match o.op,o.dst,o.guard with
 |.store _ _ _,none,none=>true
 |_,_,_=>false
def Gb(o:Oper):Bool:=match o.op with
 |.move _=>true
 |.binOp b _ _ _ _=>(match b with|.add=>true|.sub=>true|_=>false)
 |.indexAddr _ _ _=>true
 |.fieldAddr _ _ _=>true
 |.nilCheck _=>true
 |_=>false
def ZZ(H H':Hp):Prop:=∀k,(H' k).g=(H k).g∧(H' k).live=(H k).live∧(H' k).sz=(H k).sz
def Mk(L:List Oper)(p:Oper)(k:Nat):Bool:=BS p k||p.after.toList.any fun e=>Region.binds .any e&&(match L[e.on]? with|some a=>BS a k|none=>false)
def Px(L:List Oper)(o:Oper)(k:Nat):Nat→List Oper→Bool
 |_,[]=>true
 |j,p::r=>(match BL o with|true=>BS p k|false=>true)&&(match BL p with|true=>Gb o||Mk L p k|false=>true)&&!BS o j&&Px L o k (j+1) r
def Ju(L:List Oper):Nat→List Oper→Bool
 |_,[]=>true
 |k,o::r=>Px L o k (k+1) r&&Ju L (k+1) r
theorem x2{L:List Oper}{o:Oper}{k:Nat}:∀{l:List Oper} {j i:Nat} {p:Oper},Px L o k j l=true→l[i]?=some p→(BL o=true→BS p k=true)∧(BL p=true→Gb o=true∨Mk L p k=true)∧BS o (j+i)=false
 |[],j,i,p,_,h=>by simp at h
 |q::r,j,i,p,a,h=>by
  simp only[Px,Ya,Yk]at a
  cases i with
  |zero=>
   grind
  |succ i=>
   have:=x2 a.2 (i:=i) (by simpa using h)
   grind
theorem ii{L:List Oper}:∀{l:List Oper} {k i j:Nat} {o p:Oper},Ju L k l=true→i<j→l[i]?=some o→l[j]?=some p→(BL o=true→BS p (k+i)=true)∧(BL p=true→Gb o=true∨Mk L p (k+i)=true)∧BS o (k+j)=false
 |[],k,i,j,o,p,_,_,h,_=>by simp at h
 |q::r,k,i,j,o,p,b,c,h,a=>by
  simp only[Ju,Ya]at b
  cases j with
  |zero=>omega
  |succ j=>
   have a:r[j]?=some p:=by simpa using a
   cases i with
   |zero=>
    simp only[Y7,Yq]at h
    subst h
    have:=x2 b.1 a
    grind
   |succ i=>
    have:=ii b.2 (Nat.lt_of_succ_lt_succ c) (by simpa using h) a
    grind
theorem dR{p:Oper}{k:Nat}(h:BS p k=true)(b:∀e∈p.after,Region.binds .any e=true→e.on≠k):False:=by
 unfold BS at h
 rw[YW]at h
 obtain⟨e,he,a⟩:=h
 simp only[Ya]at a
 exact b e (by simpa using he) a.1 (Yc a.2)
section
variable {P:Program} {l n:Nat} {B:Base} {H H':Hp} {ops:Array Oper} {ρ:Operand→AV}
theorem o9{o:Oper}{v:AV}(h:Gb o=true)(hs:ZZ H H')(a:qV P l H o ρ v):qV P l H' o ρ v:=by
 obtain⟨e,op,type,pos,after,guard⟩:=o
 cases op<;>simp only[Gb]at h<;>first|(cases h;done)|skip
 case move=>exact a
 case nilCheck=>
  simp only[qV,AZ]at a⊢
  unfold Hj at a⊢
  split at a
  ·rename_i k g off _
   obtain⟨b,c,d⟩:=hs k
   grind
  ·exact a
  ·grind
 case fieldAddr=>
  simp only[qV,AZ]at a⊢
  unfold Ej at a⊢
  split at a
  ·exact a
  ·rename_i k g off o n _ _
   obtain⟨b,c,d⟩:=hs k
   grind
  ·grind
 case indexAddr=>
  simp only[qV,AZ]at a⊢
  unfold DU at a⊢
  split at a
  ·exact a
  ·rename_i k g off len _ n _ sz _ _ _
   obtain⟨b,c,d⟩:=hs k
   grind
  ·grind
 case binOp=>
  simp only[qV,AZ]at a⊢
  unfold Ch at a⊢
  split at a
  ·exact a
  ·exact a
  ·grind
  ·exact a
  ·grind
  ·grind
theorem ZPq{o:Oper}{s:Nat→AV}{v:AV}(h:Gb o=true)(hs:ZZ H H')(a:YA P l H ops o s v):YA P l H' ops o s v:=by
 unfold YA at a⊢
 split at a
 ·exact o9 h hs a
 ·split at a
  ·exact⟨fun e=>o9 h hs (a.1 e),a.2⟩
  grind
def FI(P:Program)(l:Nat)(o:Oper)(s:Nat→AV)(H H':Hp):Prop:=match o.op with
 |.store t a x=>match ev s a,Cu (ev s x)with
  |.ptr k g off,some vs=>g=(H k).g∧(H k).live=true∧vs.length=P.cellsOf t∧vs≠[]∧off+vs.length≤(H k).cells.length∧(k.1=l+1∨vs.all (AV.low k.1)=true)∧
    H'=updH H k {H k with cells:=(H k).cells.take off++vs++(H k).cells.drop (off+vs.length) }
  |_,_=>False
 |_=>False
theorem ZC7{o:Oper}{s:Nat→AV}(h:FI P l o s H H'):ZZ H H':=by
 unfold FI at h
 split at h
 ·split at h
  ·obtain⟨_,_,_,_,_,_,rfl⟩:=h
   intro k
   unfold updH
   grind
  grind
 grind
theorem ZJk{o:Oper}{s:Nat→AV}{K:St→Prop}(hs:BL o=true)(h:Bp P l n o K ⟨s,H⟩):∃H',FI P l o s H H'∧K ⟨s,H'⟩:=by
 obtain⟨a,op,type,pos,after,guard⟩:=o
 cases op<;>simp only[BL]at hs<;>first|(cases hs;done)|skip
 cases a with
 |some d=>cases hs
 |none=>
  simp only[Bp]at h
  simp only[FI]
  grind
theorem ZMc{o:Oper}{s:Nat→AV}{K:St→Prop}(hs:BL o=true)(h:FI P l o s H H')(b:K ⟨s,H'⟩):Bp P l n o K ⟨s,H⟩:=by
 obtain⟨a,op,type,pos,after,guard⟩:=o
 cases op<;>simp only[BL]at hs<;>first|(cases hs;done)|skip
 cases a with
 |some d=>cases hs
 |none=>
  simp only[FI]at h
  simp only[Bp]
  grind
theorem ZGB{o:Oper}{s:Nat→AV}{d:Nat}{u:AV}(g:d∉o.looksAt ops)(h:FI P l o (upd s d u) H H'):FI P l o s H H':=by
 have b:∀x∈o.op.operands,ev (upd s d u) x=ev s x:=fun x i=>by
  cases x with
  |tmp t=>
   have c:t≠d:=fun e=>g (by
    subst e
    exact Ic _ (List.mem_filterMap.2 ⟨.tmp t,by simpa using i,rfl⟩))
   simp[ev,upd,c]
  |_=>rfl
 unfold FI at h⊢
 split at h
 ·rename_i t a x f
  rw[b a (by rw[f];simp[Op.operands]),b x (by rw[f];simp[Op.operands])]at h
  exact h
 grind
variable {fin:Bool} {X:St→Prop}
def EB(P:Program)(l n:Nat)(ops:Array Oper)(fin:Bool)(X:St→Prop)(i:Nat)(K:St→Prop)(σ:St):Prop:=
 match ops[i]? with
 |none=>K σ
 |some o=>(Cv o=true∧∃d v,o.dst=some d∧d<n∧YA P l σ.H ops o σ.s v∧K ⟨upd σ.s d v,σ.H⟩)∨(BL o=true∧∃H',FI P l o σ.s σ.H H'∧K ⟨σ.s,H'⟩)∨(fin=true∧i+1=ops.size∧X σ)
def IX(P:Program)(l n:Nat)(ops:Array Oper)(fin:Bool)(X:St→Prop)(Q:St→Prop):Nat→Array Bool→St→Prop
 |0,a,σ=>Region.ready .any ops a=[]∧Q σ
 |fuel+1,a,σ=>(Region.ready .any ops a=[]→Q σ)∧∀i∈Region.ready .any ops a,EB P l n ops fin X i (IX P l n ops fin X Q fuel (a.setIfInBounds i true)) σ
theorem Zyy{i:Nat}{K g:St→Prop}{σ:St}(h:∀s,K s→g s)(b:EB P l n ops fin X i K σ):EB P l n ops fin X i g σ:=by
 unfold EB at*
 split
 ·rename_i e;rw[e]at b;exact h _ b
 ·rename_i o e
  rw[e]at b
  rcases b with⟨a,d,v,c,f,j,k⟩|⟨a,H',c,f⟩|a
  ·exact .inl ⟨a,d,v,c,f,j,h _ k⟩
  ·exact .inr (.inl ⟨a,H',c,h _ f⟩)
  ·exact .inr (.inr a)
theorem ZDE{i j:Nat}{c t:Oper}{d:Nat}{v:AV}(A:ops[j]?=some t)(a:c.dst=some d)(m:c.apart ops t=true)(p:BL t=true→Gb c=true)(r:fin=true→j+1≠ops.size){K:St→Prop}{s:Nat→AV}
  (hy:YA P l H ops c s v) (h:EB P l n ops fin X j K ⟨upd s d v,H⟩):EB P l n ops fin X j (fun g=>YA P l g.H ops c g.s v∧K ⟨upd g.s d v,g.H⟩) ⟨s,H⟩:=by
 obtain⟨w,x,y⟩:=Oper.apart_spec m
 unfold EB at*
 simp only[A]at*
 rcases h with⟨b,e,u,he,o,f,k⟩|⟨b,H',f,k⟩|⟨b,z,_⟩
 ·refine .inl ⟨b,e,u,he,o,n9 (w d a) f,ZFK (y e he) hy,?_⟩
  have q:d≠e:=fun e'=>x d a (e'▸he)
  rw[ZxY (Ne.symm q)]
  exact k
 ·exact .inr (.inl ⟨b,H',ZGB (w d a) f,ZPq (p b) (ZC7 f) hy,k⟩)
 ·exact absurd z (r b)
theorem Zon{Q:St→Prop}{i:Nat}{p:Oper}{d:Nat}{v:AV}(hi:ops[i]?=some p)(hq:Cv p=true)(E:p.dst=some d)(M:d<n):
  ∀(fuel:Nat) (a:Array Bool) (s:Nat→AV) (H:Hp),
   (∀j w,ops[j]?=some w→j≠i→a.getD j true=false→(∀e∈w.after,Region.binds .any e=true→e.on≠i∧∀b,ops[e.on]?=some b→BS b i=false)→¬Waits ops j i→p.apart ops w=true∧(BL w=true→Gb p=true)∧(fin=true→j+1≠ops.size))→DC ops a→
   (∀m b,ops[m]?=some b→BS b i=true→a.getD m true=false)→i∈Region.ready .any ops a→YA P l H ops p s v→
   IX P l n ops fin X Q fuel (a.setIfInBounds i true) ⟨upd s d v,H⟩→IX P l n ops fin X Q (fuel+1) a ⟨s,H⟩:=by
 have x:∀{K:St→Prop} {s:Nat→AV} {H:Hp},YA P l H ops p s v→K ⟨upd s d v,H⟩→EB P l n ops fin X i K ⟨s,H⟩:=fun hy hK=>by
  unfold EB;simp only[hi];exact .inl ⟨hq,d,v,E,M,hy,hK⟩
 intro fuel
 induction fuel with
 |zero=>
  intro a s H _ _ U u hy C
  refine⟨fun h=>(by rw[h]at u;cases u),fun j B=>?_⟩
  by_cases c:j=i
  ·subst c;exact x hy C
  ·have:=ready_mono B c
   rw[C.1]at this
   cases this
 |succ fuel ih=>
  intro a s H g Y U u hy C
  refine⟨fun h=>(by rw[h]at u;cases u),fun j B=>?_⟩
  by_cases c:j=i
  ·subst c;exact x hy C
  ·have f:=C.2 j (ready_mono B c)
   obtain⟨r,w,A,q⟩:=mem_ready.1 B
   have t:∀e∈w.after,Region.binds .any e=true→e.on≠i:=fun e he J heq=>by
    have f:=q e he J
    have D:=(mem_ready.1 u).1
    rw[heq]at f
    rcases YH i a.size with y|y
    ·simp[y]at D f;rw[D]at f;cases f
    ·simp[Fc y]at f
   have z:∀e∈w.after,Region.binds .any e=true→e.on≠i∧∀b,ops[e.on]?=some b→BS b i=false:=fun e he J=>⟨t e he J,fun b T=>by
    cases L:BS b i with
    |false=>rfl
    |true=>
     have f:=q e he J
     have D:=U _ b T L
     rcases YH e.on a.size with y|y
     ·simp[y]at D f;rw[D]at f;cases f
     ·simp[Fc y]at f⟩
   have N:=g j w A c r z (Y.nowait B (mem_ready.1 u).1)
   have h2:=ZDE (i:=i) A E N.1 N.2.1 N.2.2 hy f
   have o:∀k ok,ops[k]?=some ok→k≠i→(a.setIfInBounds j true).getD k true=false→
     (∀e∈ok.after,Region.binds .any e=true→e.on≠i∧∀b,ops[e.on]?=some b→BS b i=false)→¬Waits ops k i→p.apart ops ok=true∧(BL ok=true→Gb p=true)∧(fin=true→k+1≠ops.size):=fun k ok hk O I R S=>by
    refine g k ok hk O ?_ R S
    by_cases F:j=k
    ·subst F;exact r
    ·rw[getD_set_ne true F]at I;exact I
   have V:∀m b,ops[m]?=some b→BS b i=true→(a.setIfInBounds j true).getD m true=false:=fun m b hm L=>by
    by_cases G:j=m
    ·subst G
     rw[A]at hm
     cases hm
     exact(dR L t).elim
    ·rw[getD_set_ne true G];exact U m b hm L
   refine Zyy (fun Z W=>ih (a.setIfInBounds j true) Z.s Z.H o (Y.ready B) V (ready_mono u (Ne.symm c)) W.1 ?_) h2
   rw[mj _ _ c]
   exact W.2
theorem dU{K K0:St→Prop}{m:Nat}(q:∀k (a:Array Bool) (s:Nat→AV) (H:Hp),k+m=ops.size→(∀j,a.getD j true=false→k≤j)→Region.lexFrom .any ops m k a=true→K0 ⟨s,H⟩→IX P l n ops fin X K m a ⟨s,H⟩)(x:fin=true→∀i,i+1<ops.size→Waits ops (ops.size-1) i)(A:∀i j N w,i<j→ops[i]?=some N→ops[j]?=some w→(BL N=true→BS w i=true)∧(BL w=true→Gb N=true∨Mk ops.toList w i=true)∧BS N j=false):
  ∀(rest:List Oper) (k:Nat) (a:Array Bool) (s:Nat→AV) (H:Hp),rest.all (fun o=>Cv o||BL o)=true→(∀j,a.getD j true=false→k≤j)→(∀j,k≤j→j<ops.size→a.getD j true=false)→
  k+rest.length+m=ops.size→DC ops a→(∀j,j<rest.length→rest[j]?=ops[k+j]?)→Region.lexFrom .any ops (rest.length+m) k a=true→Dm P l n (ops.toList.map (·.dst)) rest K0 ⟨s,H⟩→IX P l n ops fin X K (rest.length+m) a ⟨s,H⟩
 |[],k,a,s,H,_,F,_,u,_,_,hB,h=>by
  simp only[Fh,YP,DS]at hB u⊢
  exact q k a s H u F hB h
 |o::rest,k,a,s,H,Z,F,hk2,u,hD,hl,hB,h=>by
  have M:ops[k]?=some o:=by simpa using(hl 0 (by simp)).symm
  rw[Db,Nat.add_right_comm]at hB⊢
  simp only[Region.lexFrom,Ya]at hB
  obtain⟨⟨D,hf⟩,Q⟩:=hB
  have D:k∈Region.ready .any ops a:=by simpa using D
  simp only[Ha,Ya,Yj]at Z
  have U:∀j,(a.setIfInBounds k true).getD j true=false→k+1≤j:=fun j E=>by
   by_cases p:k=j
   ·subst p
    exfalso
    rcases YH k a.size with L|L
    ·simp[L]at E
    grind
   ·rw[getD_set_ne true p]at E
    grind
  have G:∀j,k+1≤j→j<ops.size→(a.setIfInBounds k true).getD j true=false:=fun j h1 h2=>by
   rw[getD_set_ne true (by omega)]
   grind
  have hu:∀m om,ops[m]?=some om→BS om k=true→a.getD m true=false:=fun m om hm ho=>by
   grind
  have W:∀j,j<rest.length→rest[j]?=ops[k+1+j]?:=fun j E=>by have:=hl (j+1) (by simp;omega);simpa[YI,L1 1 j]using this
  have next:∀s' H',Dm P l n (ops.toList.map (·.dst)) rest K0 ⟨s',H'⟩→IX P l n ops fin X K (rest.length+m) (a.setIfInBounds k true) ⟨s',H'⟩:=fun s' H' L=>
   dU q x A rest (k+1) _ s' H' (by simpa using Z.2) U G (by simp only[Db]at u;omega) (hD.ready D) W Q L
  by_cases f:BL o=true
  ·
   have z:o.guard=none:=by
    cases z:o.guard with
    |none=>rfl
    |some _=>obtain⟨O,op,type,pos,after,guard⟩:=o;simp only at z;subst z;cases op<;>cases O<;>simp[BL]at f
   have J:Bp P l n o (Dm P l n (ops.toList.map (·.dst)) rest K0) ⟨s,H⟩:=by
    unfold Dm at h
    simp only[z]at h
    unfold EV at h
    split at h
    ·rename_i R;simp[BL,R]at f
    ·rename_i c R;simp[BL,R]at f
    ·exact h
   obtain⟨H',hS,hK⟩:=ZJk f J
   refine⟨fun h=>(by rw[h]at D;cases D),fun j E=>?_⟩
   by_cases p:j=k
   ·subst p
    unfold EB
    grind
   ·exfalso
    obtain⟨g,w,r,hall⟩:=mem_ready.1 E
    have V:=F j g
    have he:=(A k j o w (by omega) M r).1 f
    refine dR he fun e he y heq=>?_
    grind
  ·have C:Cv o=true:=by rcases Z.1 with h|h;exact h;exact absurd h f
   have hst:∃d v,o.dst=some d∧d<n∧YA P l H ops o s v∧Dm P l n (ops.toList.map (·.dst)) rest K0 ⟨upd s d v,H⟩:=by
    unfold Dm at h
    unfold YA
    cases z:o.guard with
    |none=>simp only[z]at h;exact wX C h
    |some gw=>
     obtain⟨i,b⟩:=gw
     simp only[z]at h⊢
     split at h
     ·rename_i t ht
      cases t with
      |true=>
       obtain⟨d,v,h1,h2,h3,h4⟩:=wX C (h.1 rfl)
       grind
      |false=>
       grind
     grind
   obtain⟨d,v,hd,S,hy,hK⟩:=hst
   refine Zon M C hd S (rest.length+m) a s H (fun j w r p g I Y=>⟨Region.free_spec M hf j w r p g (fun e he y=>(I e he y).1),fun hsj=>?_,fun T B=>Y (by have:=x T k (by have:=F j g;omega);rwa [←B,Nat.add_sub_cancel]at this)⟩) hD hu D hy (next _ _ hK)
   have V:=F j g
   rcases(A k j o w (by omega) M r).2.1 hsj with h|h
   ·exact h
   ·exfalso
    unfold Mk at h
    rw[Yj]at h
    rcases h with h|h
    ·exact dR h fun e he y=>(I e he y).1
    ·obtain⟨e,he,y⟩:=YW.1 h
     rw[Ya]at y
     obtain⟨BF,Aw⟩:=y
     split at Aw
     ·grind
     grind
theorem Zlp{i:Nat}{σ:St}{a:Act}{w:World}{K:St→Prop}{q:Act→World→Prop}{f:Exit→Act→World→Prop}(r:R l n B σ a w)
  (h:∀σ a w,R l n B σ a w→K σ→q a w) (L:fin=true→i+1=ops.size→X σ→wpOp P ops f i q a w) (A:EB P l n ops fin X i K σ):wpOp P ops f i q a w:=by
 have z:=L
 obtain⟨s,H⟩:=σ
 unfold EB at A
 unfold wpOp
 split
 ·grind
 ·rename_i o G
  simp only[G]at A
  rcases A with⟨C,d,v,F,g,hy,E⟩|⟨k,H',y,E⟩|⟨T,U,V⟩
  rotate_left 2
  ·have:=z T U V
   unfold wpOp at this
   simpa only[G]using this
  ·have go:qV P l H o (ev s) v→o.wp P a w q f:=fun Q=>by
    have:=ZL1 (B:=B) C F g Q a w r f
    refine Oper.wp_mono (fun I w' ⟨D,e,x⟩=>?_) this
    grind
   unfold YA at hy
   cases c:o.guard with
   |none=>
    simp only[c]at hy
    rw[Ys (by simp[Region.wanted,c])]
    grind
   |some J=>
    obtain⟨j,b⟩:=J
    simp only[c]at hy
    split at hy
    ·rename_i t O
     have p:(yielded ops a.tmps j==some b)=t:=by
      obtain⟨m,S,W,Y,M,y,N⟩:=r.un
      exact wb y O
     cases t with
     |true=>
      rw[Ys (by simp only[Region.wanted,c];exact p)]
      grind
     |false=>
      rw[Yr (by simp only[Region.wanted,c,p];decide)]
      have:=hy.2 rfl
      subst this
      rw[F]
      exact h _ _ _ (R.undef r g) E
    grind
  ·have c:o.guard=none:=by
    cases c:o.guard with
    |none=>rfl
    |some _=>obtain⟨u,op,type,pos,after,guard⟩:=o;simp only at c;subst c;cases op<;>cases u<;>simp[BL]at k
   rw[Ys (by simp[Region.wanted,c])]
   refine .inl ?_
   have:=Kv (B:=B) (ZMc (n:=n) (K:=fun D=>D=⟨s,H'⟩) k y rfl) a w r f
   refine Oper.wp_mono (fun I w' ⟨D,e,x⟩=>?_) this
   grind
theorem vE{c:Exit→Act→World→Prop}{b:Array Bool}(h:Region.ready .any ops b=[]){a:Act}{w:World}(d:c .normal a w):∀fuel,wpAny P .any ops c fuel b a w
 |0=>⟨h,d⟩
 |_+1=>⟨fun _=>d,fun i hi=>by rw[h]at hi;cases hi⟩
theorem cg{Q:St→Prop}{p:Exit→Act→World→Prop}(r:∀σ a w,R l n B σ a w→Q σ→p .normal a w)(c:fin=true→∀i,i+1<ops.size→Waits ops (ops.size-1) i)(z:fin=true→∀σ a w,R l n B σ a w→X σ→∀o,ops[ops.size-1]?=some o→wpList P ops p [o] a w):
  ∀(fuel:Nat) (b:Array Bool) (σ:St) (a:Act) (w:World),DC ops b→R l n B σ a w→IX P l n ops fin X Q fuel b σ→wpAny P .any ops p fuel b a w
 |0,_,_,_,_,_,f,h=>⟨h.1,r _ _ _ f h.2⟩
 |fuel+1,b,σ,a,w,y,f,h=>⟨fun v=>r _ _ _ f (h.1 v),fun i hi=>Zlp f (fun s' u w' s E=>cg r c z fuel _ s' u w' (y.ready hi) s E) (fun D K I=>by
  obtain⟨v,o,C,A⟩:=mem_ready.1 hi
  have e:ops.size-1=i:=by omega
  have hw:=z D σ a w f I o (by rw[e];exact C)
  have k:Region.ready .any ops (b.setIfInBounds i true)=[]:=by
   refine List.eq_nil_iff_forall_not_mem.2 fun j F=>?_
   obtain⟨m,J,t,_⟩:=mem_ready.1 F
   have G:j<ops.size:=(Y4.1 t).1
   by_cases g:i=j
   ·subst g
    rcases YH i b.size with q|q
    ·simp[q]at m
    ·simp[Fc q]at m
   ·rw[getD_set_ne true g]at m
    have x:=c D j (by omega)
    rw[e]at x
    exact y.nowait hi m x
  unfold wpOp
  simp only[C]
  unfold wpList at hw
  split
  ·rename_i d
   rw[Ys d]at hw
   exact hw.imp (Oper.wp_mono fun u w' H=>vE k H _) id
  ·rename_i d
   rw[Yr d]at hw
   exact vE k hw _) (h.2 i hi)⟩
theorem DC.none(n:Nat):DC ops (Array.replicate n false):=fun m b _ h=>by
 rw[YD]at h
 rcases YH m n with a|a
 ·simp[a]at h
 ·simp[Nat.not_lt.2 a]at h
theorem Zor{id:Nat}{ops:List Oper}{σ:St}{Q:Exit→St→Prop}(hm:P.follows .mixedOrders=true)(hB:Region.lexB .any ops.toArray=true)(C:ops.all (fun o=>Cv o||BL o)=true)(hs:Ju ops 0 ops=true)
  (h:Dm P l n (ops.map (·.dst)) ops (Q .normal) σ):Bz P l n B (.region id ops.toArray true) Q σ:=by
 intro a w x
 obtain⟨s,H⟩:=σ
 simp only[Region.lexB,Ya]at hB
 have u:=dU (P:=P) (l:=l) (n:=n) (ops:=ops.toArray) (K:=Q .normal) (K0:=Q .normal) (m:=0) (fin:=false) (X:=fun _=>False) (fun k c s H _ _ hB h=>⟨by simpa[Region.lexFrom]using hB,h⟩) (fun e=>by cases e) (fun i j E F p hi z=>by
   have:=ii hs p (by simpa using hi) (by simpa using z)
   simpa using this) ops 0 (Array.replicate ops.toArray.size false) s H C (fun _ _=>DT _) (fun j _ h=>by simp at h;simp[h]) (by simp) (DC.none _) (by simp) (by simpa using hB.2) (by simpa using h)
 have d:R l n B ⟨s,H⟩ a {w with drawn:=w.drawn+1 }:=by
  obtain⟨m,S,v,A,f,y,g⟩:=x.un
  obtain⟨r,t⟩:=v.drew (w':={w with drawn:=w.drawn+1 }) rfl rfl rfl rfl
  exact R.keep r A f y g t
 refine wp_region_any hm (cg (Q:=Q .normal) (fin:=false) (X:=fun _=>False) (fun G D w' b q=>⟨_,q,b⟩) (fun e=>by cases e) (fun e=>by cases e) _ _ _ a _ (DC.none _) d (by simpa using u))
theorem Zql{id:Nat}{L:List Oper}{o:Oper}{σ:St}{QQ:Exit→Act→World→Prop}{X:St→Prop}(hm:P.follows .mixedOrders=true)(hB:Region.lexB .any (L++[o]).toArray=true)(J:L.all (fun o=>Cv o||BL o)=true)(hs:Ju (L++[o]) 0 (L++[o])=true)
  (M:∀i,i<L.length→Waits (L++[o]).toArray L.length i) (h:Dm P l n ((L++[o]).map (·.dst)) L X σ) (G:∀σ a w,R l n B σ a w→X σ→wpList P (L++[o]).toArray QQ [o] a w) {a:Act} {w:World} (g:R l n B σ a w):(Code.region id (L++[o]).toArray true).wp P QQ a w:=by
 obtain⟨s,H⟩:=σ
 simp only[Region.lexB,Ya]at hB
 have c:true=true→∀i,i+1<(L++[o]).toArray.size→Waits (L++[o]).toArray ((L++[o]).toArray.size-1) i:=fun _ i hi=>by
  have:=M i (by simpa using hi)
  simpa using this
 have D:=dU (P:=P) (l:=l) (n:=n) (ops:=(L++[o]).toArray) (K:=fun _=>False) (K0:=X) (m:=1) (fin:=true) (X:=X) (fun k b s H V hl hB h=>by
   simp only[Region.lexFrom,Ya]at hB
   have C:k∈Region.ready .any (L++[o]).toArray b:=by simpa using hB.1.1
   refine⟨fun f=>(by rw[f]at C;cases C),fun i hi=>?_⟩
   obtain⟨f,T,d,_⟩:=mem_ready.1 hi
   have y:=hl i f
   have z:i<(L++[o]).toArray.size:=(Y4.1 d).1
   unfold EB
   simp only[d]
   refine .inr (.inr ?_)
   exact And.intro (by first|rfl|trivial) (And.intro (by omega) h)) c (fun i j T W t hi u=>by
   have:=ii hs t (by simpa using hi) (by simpa using u)
   simpa using this) L 0 (Array.replicate (L++[o]).toArray.size false) s H J (fun _ _=>DT _) (fun j _ h=>by simp at h;simp[h]) (by simp) (DC.none _) (fun j u=>by simp[Yt u]) (by simpa using hB.2) (by simpa using h)
 have p:R l n B ⟨s,H⟩ a {w with drawn:=w.drawn+1 }:=by
  obtain⟨m,S,E,I,q,F,r⟩:=g.un
  obtain⟨y,z⟩:=E.drew (w':={w with drawn:=w.drawn+1 }) rfl rfl rfl rfl
  exact R.keep y I q F r z
 refine wp_region_any hm (cg (Q:=fun _=>False) (fin:=true) (X:=X) (fun Y U w' A x=>x.elim) c (fun _ σ a w g N O v=>?_) _ _ _ a _ (DC.none _) p (by simpa using D))
 have e:O=o:=by simpa using v.symm
 subst e
 exact G σ a w g N
end
end Go.Eng
namespace Go.Eng
set_option linter.all false
open Go Go.RowKit
section
variable {P:Program} {T:Nat→Option TI} {r:Ren} {H H':Hp} {g:Option Bool} {a:AT} {K:AV→AT→Prop}
def KR(r:Ren)(K:AV→AT→Prop)(y:AV):Prop:=∃v a,y=ren r v∧K v a
theorem KR.mk{v:AV}{a:AT}(h:K v a):KR r K (ren r v):=⟨v,a,rfl,h⟩
theorem KR.mk'{v y:AV}{a:AT}(h:K v a)(e:y=ren r v):KR r K y:=⟨v,a,e,h⟩
theorem nV{t:TypeId}{i:TI}(hi:TIok P t i)(h:(i.str||i.elm.isSome)=true):H2 P t=true:=by
 rw[Yj]at h
 unfold H2
 rcases h with h|h
 ·have:=hi.str h
  unfold JY at this
  split at this
  ·rename_i a _;rw[a]
  ·cases this
 ·obtain⟨e,he⟩:=Y8.1 h
  obtain⟨b,c⟩:=e
  have:=(Em (hi.elm _ he)).1
  rw[this]
theorem cK{t:TypeId}{i:TI}(hi:TIok P t i)(y:C3 r H H')(p:∀b,g=some b→b=true){x:AV}(h:Lb i H x g a K):D2 P H' t (ren r x) (KR r K):=by
 unfold Lb at h
 cases x<;>simp only at h<;>try exact h.elim
 case iptr cs off=>
  simp only[ren,D2,hi.agg,hi.siz]
  split at h
  ·rename_i he
   rw[he]
   split at h
   ·rename_i c d f
    obtain⟨m,n⟩:=dC _ _ _ f
    have d:=Yo d
    rw[Y2]at n
    exact⟨by omega,by omega,.mk' h (by rw[m,ren,Gy])⟩
   grind
  ·rename_i he
   rw[he]
   rw[BY]at h
   simp only
   split at h
   ·rename_i c o;simp only[o];exact .mk' h rfl
   grind
 case ptr k q off=>
  simp only[ren,D2,hi.agg,hi.siz]
  split at h
  ·rename_i hl
   obtain⟨s,u,z,A,v⟩:=y.at hl
   refine⟨s,u,?_⟩
   rw[v]
   split at h
   ·split at h
    ·rename_i he
     rw[he]
     split at h
     ·rename_i c d f
      obtain⟨m,n⟩:=dC _ _ _ f
      have d:=Yo d
      rw[Y2]at n
      exact⟨by omega,by rw[Cd];omega,.mk' h (by rw[ren,Ek,EG,m])⟩
     grind
    ·rename_i he
     rw[he]
     rw[BY]at h
     split at h
     ·rename_i c o;simp only[Gw,o,Y3];exact .mk' h rfl
     grind
   ·split at h
    ·rename_i he
     rw[he]
     split at h
     ·rename_i c B d f
      have d:=Yo d
      have f:=Yc f
      have j:DB _ _ _:=Bo p h.1
      unfold DB at j
      rw[f]at j
      have w:=congrArg List.length j
      rw[YF,Y2]at w
      exact⟨by omega,by rw[Cd];omega,.mk' h.2 (by rw[ren,Ek,EG,j])⟩
     grind
    ·rename_i he
     rw[he]
     split at h
     ·rename_i x
      have j:DB _ _ _:=Bo p h.1
      unfold DB at j
      have e:(H k).cells[off]?=some x:=by
       have:=congrArg (fun l=>l[0]?) j
       grind
      simp only[Gw,e,Y3]
      exact .mk' h.2 rfl
     grind
   grind
  ·grind
theorem Je{t:TypeId}{i:TI}(hi:TIok P t i){f:Nat}{x:Nat×Nat×Bool}(h:Bj i.fld f=some x):fld P t f=some (x.1,x.2.1)∧JJ P t f=some x:=by
 rw[BY]at h;exact hi.fld f x h
theorem ZgE{t:TypeId}{i:TI}(hi:TIok P t i)(j:C3 r H H'){f:Nat}{x:AV}(h:Ri i H f x a K):Ej P H' t f (ren r x) (KR r K):=by
 unfold Ri at h
 split at h
 ·rename_i o n b k
  have e:=(Je hi k).1
  split at h
  ·rename_i c
   have c:=Yo c
   unfold Ej
   rw[e]
   split at h
   ·simp only[ren];exact⟨by omega,.mk' h rfl⟩
   ·split at h
    ·rename_i hl
     obtain⟨d,g,_⟩:=j.at hl
     simp only[ren];exact⟨by omega,d,g,.mk' h rfl⟩
    grind
   grind
  grind
 grind
theorem ZkR{t:TypeId}{i:TI}(hi:TIok P t i){f:Nat}{x:AV}(h:Ss i f x a K):Eo P t f (ren r x) (KR r K):=by
 unfold Ss at h
 rw[Zpu]
 split at h
 ·rename_i o n cs b
  rw[(Je hi b).2]
  split at h
  ·rename_i d
   have d:=Yo d
   simp only[ren,MP]
   exact⟨by omega,.mk' h (by rw[ren,Ek,EG])⟩
  grind
 ·rename_i o n cs b
  rw[(Je hi b).2]
  rw[BY]at h
  split at h
  ·rename_i c e
   simp only[ren,MP,Gw,e,Y3]
   exact .mk' h rfl
  grind
 grind
theorem ZgH{t:TypeId}{i:TI}(hi:TIok P t i)(w:C3 r H H')(m:∀b,g=some b→b=true){x j:AV}(h:Rk i H x j g a K):DU P H' t (ren r x) (ren r j) (KR r K):=by
 unfold Rk at h
 split at h
 ·rename_i e sz k n he
  have he:=hi.elm _ he
  split at h
  ·rename_i es e' q
   split at h
   ·rename_i c d
    have c:=Yc c
    have d:=Yo d
    obtain⟨f,l⟩:HP _ _ _:=Bo m h.1
    simp only[ren,DU,he]
    refine⟨f,?_⟩
    rw[l]
    exact⟨c,by omega,.mk' h.2 rfl⟩
   grind
  ·rename_i k q off len o A
   split at h
   ·rename_i hl c d
    have c:=Yc c
    have d:=Yo d
    obtain⟨p,s,y,u,z⟩:=w.at hl
    obtain⟨f,l,v⟩:J4 _ _ _ _ _:=Bo m h.1
    simp only[ren,DU,he]
    exact⟨f,l,p,s,by rw[u,c],by omega,.mk' h.2 (by rw[ren,v])⟩
   grind
  grind
 grind
theorem Zkp{t:TypeId}{i:TI}(hi:TIok P t i)(m:∀b,g=some b→b=true){x j:AV}(h:RY i x j g a K):EL P t (ren r x) (ren r j) (KR r K):=by
 unfold RY at h
 split at h
 ·rename_i s k n b q
  split at h
  ·rename_i d
   have d:=Yc d
   obtain⟨e,c,f,l⟩:Hk _ _ _:=Bo m h.1
   simp only[ren,EL]
   refine⟨by rw[hi.kin];exact d,e,?_⟩
   rw[f]
   exact .mk' h.2 (by rw[ren,l])
  grind
 grind
theorem Zn7{op:BinOp}{k:IntKind}{x y:Int}(c:∀b,g=some b→b=true)(h:Qn op k x y g a K):Fr op k x y (KR r K):=by
 unfold Qn at h
 cases op<;>simp only at h<;>try exact h.elim
 all_goals simp only[Fr]
 case eql=>exact .mk' h rfl
 case neq=>exact .mk' h rfl
 case lss=>exact .mk' h rfl
 case leq=>exact .mk' h rfl
 case gtr=>exact .mk' h rfl
 case geq=>exact .mk' h rfl
 case add|sub|mul=>
  split at h
  ·have e:B8 _ _ _:=Bo c h.1
   unfold B8 at e
   rw[e];exact .mk' h.2 rfl
  ·grind
 case and|or|xor=>
  split at h
  ·have e:Bs _ _:=Bo c h.1
   unfold Bs at e
   rw[e];exact .mk' h.2 rfl
  ·grind
 case quo=>
  split at h
  ·have e:B8 _ _ _:=Bo c h.2.1
   unfold B8 at e
   rw[e];exact⟨Bo c h.1,.mk' h.2.2 rfl⟩
  ·grind
 case rem=>
  split at h
  ·have e:Bs _ _:=Bo c h.2.1
   unfold Bs at e
   rw[e];exact⟨Bo c h.1,.mk' h.2.2 rfl⟩
  ·grind
 case shr=>
  split at h
  ·have e:Bs _ _:=Bo c h.2.1
   unfold Bs at e
   rw[e];exact⟨Bo c h.1,.mk' h.2.2 rfl⟩
  ·grind
 case shl=>
  split at h
  ·have e:B8 _ _ _:=Bo c h.2.1
   unfold B8 at e
   rw[e];exact⟨Bo c h.1,.mk' h.2.2 rfl⟩
  ·grind
theorem Zoh{op:BinOp}{x y:ByteArray}(c:∀b,g=some b→b=true)(h:Pw op x y g a K):Fv op x y (KR r K):=by
 unfold Pw at h
 cases op<;>simp only at h<;>try exact h.elim
 all_goals simp only[Fv]
 case add=>exact⟨Bo c h.1,.mk' h.2 rfl⟩
 all_goals exact .mk' h rfl
theorem vm{neg:Bool}{x:AV}(g:C3 r H H')(h:Kf H neg x a K):Dn H' neg (ren r x) (KR r K):=by
 unfold Kf at h
 split at h
 ·simp only[ren,Dn];exact fun b=>.mk' (h b) rfl
 ·rename_i es
  cases es with
  |nil=>simp only[ren,Dn];exact fun b=>.mk' (h b (fun e=>absurd rfl e)) rfl
  |cons e es=>simp only[ren,Dn];exact .mk' (h neg (fun _=>rfl)) rfl
 ·rename_i k q off n
  split at h
  ·rename_i hl
   obtain⟨d,f,_⟩:=g.at hl
   simp only[ren,Dn]
   exact⟨⟨d,f⟩,fun c=>.mk' (h neg (fun _=>rfl)) rfl,fun c b=>.mk' (h b (fun e=>absurd c e)) rfl⟩
  grind
 grind
theorem wn:∀(ks:List Nat) (xs ys:List AV) (b:Bool),D1 ks xs ys=some b→D1 ks (Am r xs) (Am r ys)=some b
 |[],[],[],b,h=>by simpa[Am]using h
 |k::ks,x::xs,y::ys,b,h=>by
  cases x<;>cases y<;>simp only[D1]at h<;>try (cases h;done)
  rename_i x y
  simp only[Am,ren,D1]
  split at h
  ·rename_i d e a c
   simp only[a,wn ks xs ys _ c]
   exact h
  ·cases h
 |[],[],_::_,b,h=>by simp[D1]at h
 |[],_::_,_,b,h=>by simp[D1]at h
 |_::_,[],_,b,h=>by simp[D1]at h
 |_::_,x::_,[],b,h=>by cases x<;>simp[D1]at h
theorem ZEo{H:Hp}{op:BinOp}{t:TypeId}{a:Bool}{x:AV}{K:AV→Prop}:Ch P H op t a x .e0 K=(a=true∧kin P t=4∧match op with|.eql=>Dn H false x K|.neq=>Dn H true x K|_=>False):=by
 unfold Ch
 grind
theorem ZoA{t:TypeId}{i:TI}(hi:TIok P t i)(e:C3 r H H')(f:∀b,g=some b→b=true){op:BinOp}{j:Bool}{x y:AV}(h:Ps i H op j x y g a K):Ch P H' op t j (ren r x) (ren r y) (KR r K):=by
 unfold Ps at h
 split at h
 ·split at h
  ·rename_i c
   simp only[ren,Ch]
   exact⟨ZLv c,Zn7 f h⟩
  grind
 ·simp only[ren,Ch];exact Zoh f h
 ·split at h
  ·rename_i c
   simp only[ren,Ch]
   refine⟨by rw[hi.kin];exact Yc c,?_⟩
   split at h
   ·exact .mk' h rfl
   ·exact .mk' h rfl
   grind
  grind
 ·rename_i xs ys
  split at h
  ·rename_i ks d
   split at h
   ·rename_i b l
    simp only[ren,Ch,F5,hi.eqt _ d,wn _ _ _ _ l]
    split at h
    ·exact .mk' h rfl
    ·exact .mk' h rfl
    grind
   grind
  grind
 ·rw[show ren r .e0=.e0 from by simp[ren],ZEo]
  split at h
  ·rename_i m k
   refine⟨rfl,by rw[hi.kin];exact Yc k,?_⟩
   split at h
   ·exact vm e h
   ·exact vm e h
   grind
  grind
 grind
theorem ZqW{op:UnOp}{x:AV}(c:∀b,g=some b→b=true)(h:Uk op x g a K):Ec op (ren r x) (KR r K):=by
 unfold Uk at h
 split at h
 ·simp only[ren,Ec];exact .mk' h rfl
 ·split at h
  ·have e:B8 _ _ _:=Bo c h.1
   unfold B8 at e
   simp only[ren,Ec]
   rw[e];exact .mk' h.2 rfl
  grind
 ·split at h
  ·have e:Bs _ _:=Bo c h.1
   unfold Bs at e
   simp only[ren,Ec]
   rw[e];exact .mk' h.2 rfl
  grind
 grind
theorem ZlJ{s d:TypeId}{i j:TI}(hi:TIok P s i)(k:TIok P d j){x:AV}(l:∀b,g=some b→b=true)(h:Tw i j x g a K):Ep P s d (ren r x) (KR r K):=by
 unfold Tw at h
 split at h
 ·split at h
  ·rename_i q n p k' o m t c f
   have e:B8 _ _ _:=Bo l h.1
   unfold B8 at e
   simp only[ren,Ep,hi.ik _ c,k.ik _ f]
   rw[e];exact .mk' h.2 rfl
  grind
 ·split at h
  ·rename_i c f
   simp only[ren,Ep,Gv (by rw[hi.kin];exact Yc c),Gv (by rw[k.kin];exact Yc f)]
   exact .mk' h rfl
  grind
 grind
theorem KV{d l:Nat}{o a:Option AV}(h:CI d o l)(b:a=o.map (ren r)):DJ d a=some l:=by
 subst b
 unfold CI at h
 split at h
 ·simp[DJ,h]
 ·subst h
  simp[DJ,ren]
 grind
theorem Zkv{t:TypeId}{i:TI}(hi:TIok P t i)(B:C3 r H H')(c:∀b,g=some b→b=true){x:AV}{lo q:Option AV}{v:Bool}(h:Sb i H x lo q v g a K):
  DX P H' t (ren r x) (lo.map (ren r)) (q.map (ren r)) v (KR r K):=by
 unfold Sb at h
 split at h
 ·split at h
  ·split at h
   ·rename_i C
    obtain⟨m,n,o,p⟩:=h
    have f:=KV (r:=r) (Bo c m) rfl
    have j:=KV (r:=r) (Bo c n) rfl
    have d:Ee _ _ _:=Bo c o
    simp only[ren,DX,f,j]
    exact⟨by rw[hi.kin];exact Yc C,trivial,d.1,d.2,.mk' p rfl⟩
   grind
  ·split at h
   ·rename_i e sz w D he
    split at h
    ·rename_i l
     have l:=Yo l
     obtain⟨m,n,o,p,u⟩:=h
     have f:=KV (r:=r) (Bo c m) rfl
     have j:=KV (r:=r) (Bo c n) rfl
     have d:Ee _ _ _:=Bo c o
     have k:LN _ _ _ _ _:=Bo c p
     simp only[ren,DX,f,j,hi.elm _ he]
     exact⟨trivial,by omega,k.1,d.1,d.2,.mk' u (by rw[ren,k.2])⟩
    grind
   grind
  ·split at h
   ·rename_i e sz I G D he hl
    split at h
    ·rename_i l s
     have l:=Yo l
     obtain⟨y,z,E,A,F⟩:=B.at hl
     obtain⟨m,n,o,p,u⟩:=h
     have f:=KV (r:=r) (Bo c m) rfl
     have j:=KV (r:=r) (Bo c n) rfl
     have d:Ee _ _ _:=Bo c o
     have k:UI _ _ _ _ _:=Bo c p
     simp only[ren,DX,f,j,hi.elm _ he]
     exact⟨trivial,y,z,by omega,by rw[A];exact Yc s,d.1,d.2,.mk' u (by rw[ren,k.1,k.2])⟩
    grind
   grind
  grind
 grind
theorem ZoS{t:TypeId}{i:TI}(hi:TIok P t i)(k:C3 r H H')(d:∀b,g=some b→b=true){x:AV}(h:Qk i H x g a K):Dq P H' t (ren r x) (KR r K):=by
 unfold Qk at h
 split at h
 ·split at h
  ·rename_i c
   have e:Bs _ _:=Bo d h.1
   unfold Bs at e
   simp only[ren,Dq,hi.kin]
   exact⟨Yc c,.mk' h.2 (by rw[ren,e])⟩
  grind
 ·split at h
  ·rename_i c
   have e:Bs _ _:=Bo d h.1
   unfold Bs at e
   simp only[ren,Dq,hi.kin]
   exact⟨Yc c,.mk' h.2 (by rw[ren,e])⟩
  grind
 ·split at h
  ·rename_i c
   have e:Bs _ _:=Bo d h.1
   unfold Bs at e
   simp only[ren,Dq,hi.kin]
   exact⟨Yc c,.mk' h.2 (by rw[ren,e])⟩
  grind
 ·split at h
  ·rename_i c hl
   have e:Bs _ _:=Bo d h.1
   unfold Bs at e
   obtain⟨f,j,_⟩:=k.at hl
   simp only[ren,Dq,hi.kin]
   exact⟨Yc c,f,j,.mk' h.2 (by rw[ren,e])⟩
  grind
 grind
theorem ZnW(a:C3 r H H'){x:AV}{y:Bool×List (List D)}(h:fh H x=some y):Lm H' (ren r x)=some y:=by
 unfold fh at h
 split at h
 ·simp only[ren,Lm];exact h
 ·split at h
  ·rename_i k g _ _ q es hl he
   obtain⟨b,c,d,_,_⟩:=a.at hl
   simp only[ren,Lm]
   grind
  ·cases h
 ·cases h
theorem RT(q:Bool)(ds:List D):ren r (Gc q ds)=Gc q ds:=by
 unfold Gc
 split<;>simp[ren,Gy]
theorem ZCt(a q:Bool)(ds:List D)(ok:Bool):ren r (Lw a q ds ok)=Lw a q ds ok:=by
 unfold Lw
 cases a
 ·exact RT q ds
 ·simp only[ren,Am,RT]
theorem ZlK{t:TypeId}{i:TI}(hi:TIok P t i)(k:C3 r H H')(l:∀b,g=some b→b=true){x y:AV}{c:Bool}(h:TR i H x y c g a K):Fp P H' t (ren r x) (ren r y) c (KR r K):=by
 unfold TR at h
 split at h
 ·rename_i q z o es s ok vs n f j
  split at h
  ·rename_i m
   obtain⟨d,e⟩:Oe _ _ _ _ _:=Bo l h.1
   simp only[Fp,hi.mp _ f,ZnW k j,ren]
   exact⟨ji m,.mk' h.2 (by rw[d,e,ZCt])⟩
  grind
 grind
theorem M2{x:AV}{vs:List AV}(h:Cu x=some vs)(a:∀f xs ys,x≠.fn (.yield f) xs ys):Cu (ren r x)=some (Am r vs):=by
 cases x<;>simp only[Cu,Yq]at h<;>try (cases h;done)
 case fn f xs ys=>
  subst h
  cases f with
  |yield i=>exact absurd rfl (a i xs ys)
  |_=>simp[ren,Am,Cu]
 all_goals(subst h;simp[ren,Am,Cu])
theorem Ny{x:AV}(h:HM x=true):∀f xs ys,x≠.fn (.yield f) xs ys:=by
 rintro f xs ys rfl;cases h
theorem ZIg{t:TypeId}{i:TI}(hi:TIok P t i){f o n:Nat}(h:ll i f=some (o,n)):fld P t f=some (o,n):=by
 unfold ll at h
 split at h
 ·rename_i d c b a
  simp only[Yq,FL]at h
  obtain⟨rfl,rfl⟩:=h
  exact(Je hi a).1
 ·cases h
theorem vf{t:TypeId}{i:TI}(hi:TIok P t i):∀(ps:List (Nat×AV)) (z cs:List AV),(∀p∈ps,HM p.2=true)→NY i z ps=some cs→B7 (fld P t) (Am r z) (ps.map fun p=>(p.1,ren r p.2))=some (Am r cs)
 |[],z,cs,_,h=>by
  simp only[NY,Yq]at h
  subst h
  simp[B7]
 |(f,v)::ps,z,cs,e,h=>by
  simp only[NY]at h
  split at h
  ·rename_i off size vs a g
   split at h
   ·rename_i c d
    have c:=Yc c
    have d:=Yo d
    have b:=M2 (r:=r) g (Ny (e (f,v) (Y1 ..)))
    simp only[Y9,B7,ZIg hi a,b,Cd]
    rw[Yr (by omega)]
    have:=vf hi ps _ cs (fun p a=>e p (YS _ a)) h
    rw[←this]
    simp only[FP,EG,Ek]
   ·cases h
  ·cases h
theorem ZkI{t:TypeId}{i:TI}(hi:TIok P t i){parts:List (Nat×AV)}(e:∀p∈parts,HM p.2=true)(f:∀z,i.zer=some z→Am r z=z)(h:Sr i parts a K):
  EM P t (parts.map fun p=>(p.1,ren r p.2)) (KR r K):=by
 unfold Sr at h
 split at h
 ·rename_i z c b
  split at h
  ·rename_i cs d
   have:=vf (r:=r) hi _ _ _ e d
   unfold EM
   rw[hi.zer _ b]
   rw[f z b]at this
   simp only[this]
   exact⟨hi.str c,.mk' h rfl⟩
  grind
 grind
theorem Zw9{x:AV}(h:x.flat=true):ren r x=x:=by cases x<;>first|(simp[ren];done)|cases h
theorem I9{z:List AV}(h:z.all AV.flat=true):Am r z=z:=by
 induction z with
 |nil=>simp[Am]
 |cons x z a=>
  simp only[Ha,Ya]at h
  rw[Am,Zw9 h.1,a h.2]
theorem ve{c x y:Operand}{ρ d:Operand→AV}{t:Bool}(e:ρ c=.d (.bool t))(b:d c=ren r (ρ c))(f:t=true→d x=ren r (ρ x))(hy:t=false→d y=ren r (ρ y))(h:tV T H (.pick c x y) ρ g a K):
  AZ P H' (.pick c x y) d (KR r K):=by
 simp only[tV,e]at h
 rw[e]at b
 simp only[ren]at b
 simp only[AZ,b]
 rw[Zyf]at h
 cases t
 ·exact .mk' h (by simp[hy rfl])
 ·exact .mk' h (by simp[f rfl])
theorem ed{ρ a:Operand→AV}{xs:List Operand}(h:∀x∈xs,a x=ren r (ρ x)):xs.map a=Am r (xs.map ρ):=by
 rw[EH,G5]
 exact Fe h
theorem wD{ρ a:Operand→AV}{o:Option Operand}(h:∀x,o=some x→a x=ren r (ρ x)):o.map a=(o.map ρ).map (ren r):=by
 cases o with
 |none=>rfl
 |some x=>simp[h x rfl]
theorem wo{r:Ren}{b:Bool}{x y:AV}{a:AT}{K:AV→AT→Prop}(h:DN b x y (fun v=>K v a)):DN b (ren r x) (ren r y) (KR r K):=by
 unfold DN at h
 split at h
 ·simp only[ren,DN];exact .mk' h rfl
 grind
theorem Zwc(w:A7 P T)(D:C3 r H H')(B:∀b,g=some b→b=true){op:Op}{ρ A:Operand→AV}(Z:∀x∈op.operands,A x=ren r (ρ x))(h:tV T H op ρ g a K):AZ P H' op A (KR r K):=by
 have get:∀{x:Operand},x∈op.operands→A x=ren r (ρ x):=fun l=>Z _ l
 cases op<;>simp only[tV]at h<;>try exact h.elim
 case move x=>exact .mk' h (get (by simp[Op.operands]))
 case assign x=>exact .mk' h (get (by simp[Op.operands]))
 case pick c x y=>
  split at h
  ·rename_i t m
   exact ve (a:=a) (g:=g) (T:=T) (H:=H) m (get (by simp[Op.operands])) (fun _=>get (by simp[Op.operands])) (fun _=>get (by simp[Op.operands])) (by simp only[tV,m];exact h)
  ·grind
 case load t x=>
  split at h
  ·rename_i i hi;simp only[AZ];rw[get (x:=x) (by simp[Op.operands])];exact cK (w _ _ hi) D B h
  ·grind
 case fieldAddr t x f=>
  split at h
  ·rename_i i hi;simp only[AZ];rw[get (x:=x) (by simp[Op.operands])];exact ZgE (w _ _ hi) D h
  ·grind
 case field t x f=>
  split at h
  ·rename_i i hi;simp only[AZ];rw[get (x:=x) (by simp[Op.operands])];exact ZkR (w _ _ hi) h
  ·grind
 case indexAddr t x j=>
  split at h
  ·rename_i i hi;simp only[AZ];rw[get (x:=x) (by simp[Op.operands]),get (x:=j) (by simp[Op.operands])];exact ZgH (w _ _ hi) D B h
  ·grind
 case index t x j=>
  split at h
  ·rename_i i hi;simp only[AZ];rw[get (x:=x) (by simp[Op.operands]),get (x:=j) (by simp[Op.operands])];exact Zkp (w _ _ hi) B h
  ·grind
 case makeInterface t x=>
  split at h
  case h_2=>exact h.elim
  rename_i i hi
  have F:(i.str||i.elm.isSome)=true→H2 P t=true:=nV (w _ _ hi)
  simp only[AZ]
  rw[get (x:=x) (by simp[Op.operands])]
  split at h
  ·rename_i xs E l
   rw[l]
   simp only[ren]
   split at h
   case h_2=>exact h.elim
   rename_i ds O
   have e:=RE O
   subst e
   rw[Gy,O]
   exact⟨F E,.mk' h rfl⟩
  ·rename_i y E l
   rw[l]
   simp only[ren]
   exact⟨F E,.mk' h rfl⟩
  ·exact h.elim
 case typeAssert x u t ok=>
  split at h
  case h_2=>exact h.elim
  rename_i i hi
  have F:(i.str||i.elm.isSome)=true→H2 P t=true:=nV (w _ _ hi)
  simp only[AZ]
  rw[get (x:=x) (by simp[Op.operands])]
  split at h
  case h_2=>exact h.elim
  rename_i u ds q E l
  rw[l]
  simp only[ren]
  split at h
  case h_2=>exact h.elim
  rename_i v X G
  rw[G]
  have I:ren r v=v:=by
   cases q with
   |true=>cases G;simp only[ren,Gy]
   |false=>
    match ds,G with
    |[d],G=>cases G;simp only[ren]
  refine⟨F E,Yc X,.mk' h ?_⟩
  cases ok with
  |true=>simp only[cond,ren,Am,I]
  |false=>exact I.symm
 case extract x j=>
  simp only[AZ]
  rw[get (x:=x) (by simp[Op.operands])]
  split at h
  ·rename_i vs l
   rw[l]
   simp only[ren,Gw]
   rw[BY]at h
   split at h
   ·rename_i y hy;rw[hy];exact .mk' h rfl
   grind
  ·grind
 case binOp o t x y u=>
  split at h
  ·rename_i i hi;simp only[AZ];rw[get (x:=x) (by simp[Op.operands]),get (x:=y) (by simp[Op.operands])];exact ZoA (w _ _ hi) D B h
  ·grind
 case unOp o t x=>simp only[AZ];rw[get (x:=x) (by simp[Op.operands])];exact ZqW B h
 case nilCheck x=>
  split at h
  ·rename_i k q off l
   split at h
   ·rename_i hl
    simp only[AZ]
    rw[get (x:=x) (by simp[Op.operands]),l]
    obtain⟨g1,Q,_,_,_⟩:=D.at hl
    simp only[ren,Hj]
    exact⟨g1.symm▸rfl,Q,.mk' h (by simp[ren])⟩
   grind
  ·rename_i cs off l
   simp only[AZ]
   rw[get (x:=x) (by simp[Op.operands]),l]
   simp only[ren,Hj]
   exact .mk' h (by simp[ren])
  ·grind
 case convert s d x=>
  split at h
  ·rename_i i j hi V;simp only[AZ];rw[get (x:=x) (by simp[Op.operands])];exact ZlJ (w _ _ hi) (w _ _ V) B h
  ·grind
 case makeFunc fn first C=>
  have n:first.toList.map A=Am r (first.toList.map ρ):=ed fun x l=>get (by simp only[Op.operands,L7];exact .inl (by simpa using l))
  have J:C.toList.map A=Am r (C.toList.map ρ):=ed fun x l=>get (by simp only[Op.operands,L7];exact .inr (by simpa using l))
  simp only[AZ]
  rw[n,J]
  split at h
  ·grind
  ·rename_i M
   refine .mk' h ?_
   cases fn<;>first|exact absurd rfl (M _)|simp[ren]
 case slice t x lo hi mx=>
  split at h
  ·rename_i i L
   simp only[AZ]
   rw[get (x:=x) (by simp[Op.operands]),wD (o:=lo) (fun y hy=>get (by subst hy;simp[Op.operands])),wD (o:=hi) (fun y hy=>get (by subst hy;simp[Op.operands]))]
   exact Zkv (w _ _ L) D B h
  ·grind
 case build t parts=>
  split at h
  ·rename_i i hi F
   simp only[AZ]
   have e:(parts.toList.map fun p=>(p.1,A p.2))=(parts.toList.map fun p=>(p.1,ρ p.2)).map fun p=>(p.1,ren r p.2):=by
    rw[G5]
    refine Fe fun p N=>?_
    simp only[Function.comp]
    rw[get (x:=p.2) (by simp only[Op.operands,L8,Y0];exact⟨p,N,rfl⟩)]
   rw[e]
   refine ZkI (w _ _ hi) (fun p N=>?_) (fun z Y=>I9 ((w _ _ hi).flt z Y)) h
   obtain⟨q,hq,rfl⟩:=Y0.1 N
   grind
  ·grind
 case lookup t x y ck=>
  split at h
  ·rename_i i hi;simp only[AZ];rw[get (x:=x) (by simp[Op.operands]),get (x:=y) (by simp[Op.operands])];exact ZlK (w _ _ hi) D B h
  ·grind
 case call c=>
  split at h
  ·rename_i x t m l W
   split at h
   ·rename_i i hi
    have n:c.args=#[x]:=Ct (by simpa using l)
    have J:c.argTypes=#[t]:=Ct (by simpa using W)
    simp only[AZ,m,n,J]
    show 1=1∧Dq P H' t (A x) (KR r K)
    rw[get (x:=x) (by simp[Op.operands,Call.operands,m,n])]
    exact⟨rfl,ZoS (w _ _ hi) D B h⟩
   grind
  ·rename_i x y m l
   have n:c.args=#[x,y]:=Ct (by simpa using l)
   simp only[AZ,m,n]
   show DN false (A x) (A y) (KR r K)
   rw[get (x:=x) (by simp[Op.operands,Call.operands,m,n]),get (x:=y) (by simp[Op.operands,Call.operands,m,n])]
   exact wo h
  ·rename_i x y m l
   have n:c.args=#[x,y]:=Ct (by simpa using l)
   simp only[AZ,m,n]
   show DN true (A x) (A y) (KR r K)
   rw[get (x:=x) (by simp[Op.operands,Call.operands,m,n]),get (x:=y) (by simp[Op.operands,Call.operands,m,n])]
   exact wo h
  ·rename_i x y z m l
   have n:c.args=#[x,y,z]:=Ct (by simpa using l)
   simp only[AZ,m,n]
   show FY true (A x) (A y) (A z) (KR r K)
   rw[get (x:=x) (by simp[Op.operands,Call.operands,m,n]),get (x:=y) (by simp[Op.operands,Call.operands,m,n]),get (x:=z) (by simp[Op.operands,Call.operands,m,n])]
   unfold FY at h
   split at h
   ·rename_i R S U
    rw[R,S,U]
    simp only[ren,FY];exact .mk' h rfl
   grind
  ·grind
end
abbrev Cn:=List (Nat×Bool)
abbrev BG:=List (Nat×Cn)
def lk:BG→Nat→Cn
 |[],_=>[]
 |(i,c)::r,j=>match Nat.beq i j with|true=>c|false=>lk r j
def Mp(t:Bool):Bool→Bool
 |true=>t
 |false=>!t
theorem dg{t b:Bool}:Mp t b=true↔t=b:=by cases t<;>cases b<;>simp[Mp]
def IA:Cn→Cn→Bool
 |[],[]=>true
 |(i,a)::r,(j,b)::q=>Nat.beq i j&&Mp a b&&IA r q
 |_,_=>false
theorem ea:∀{a b:Cn},IA a b=true→a=b
 |[],[],_=>rfl
 |(i,a)::r,(j,b)::q,h=>by
  simp only[IA,Ya]at h
  rw[Yc h.1.1,dg.1 h.1.2,ea h.2]
 |[],_::_,h=>by simp[IA]at h
 |_::_,[],h=>by simp[IA]at h
def Pk(a:Cn):Cn→Bool
 |[]=>IA a []
 |q::b=>IA a (q::b)||Pk a b
theorem wO{a:Cn}:∀{b:Cn},Pk a b=true→∀q∈a,q∈b
 |[],h,q,c=>by rw[ea h]at c;exact c
 |p::b,h,q,c=>by
  simp only[Pk,Yj]at h
  rcases h with h|h
  ·rw[ea h]at c;exact c
  ·exact YS _ (wO h q c)
def CD(s:Nat→AV)(c:Cn):Prop:=∀q∈c,s q.1=.d (.bool q.2)
def FU(s:Nat→AV):Cn→Option Bool
 |[]=>some true
 |[(d,b)]=>match s d with|.d (.bool t)=>some (Mp t b)|_=>none
 |(d,b)::r=>match s d,FU s r with|.d (.bool t),some c=>some (c&&Mp t b)|_,_=>none
theorem Ks{s:Nat→AV}:∀{c:Cn} {g:Bool},FU s c=some g→(g=true↔CD s c)
 |[],g,h=>by simp only[FU,Yq]at h;subst h;simp[CD]
 |[(d,b)],g,h=>by
  simp only[FU]at h
  split at h
  ·rename_i t f
   simp only[Yq]at h
   subst h
   rw[dg]
   simp[CD,f]
  ·cases h
 |(d,b)::q::r,g,h=>by
  simp only[FU]at h
  split at h
  ·rename_i t c f i
   simp only[Yq]at h
   subst h
   have j:=Ks i
   rw[Ya,j,dg]
   constructor
   ·rintro⟨e,rfl⟩ p a
    rcases YM.1 a with rfl|a
    ·exact f
    ·exact e p a
   ·intro e
    refine⟨fun p a=>e p (YS _ a),?_⟩
    have:=e (d,b) (Y1 ..)
    grind
  ·cases h
def K3(e:Nat)(c:Cn):Bool:=c.all fun q=>!Nat.beq q.1 e
def fresh(e:Nat)(env:BG):Bool:=env.all fun p=>K3 e p.2
theorem w3{s:Nat→AV}{e:Nat}{v:AV}{c:Cn}(h:K3 e c=true):CD (upd s e v) c↔CD s c:=by
 have key:∀q∈c,upd s e v q.1=s q.1:=fun q a=>by
  have:=Yy.1 h q a
  unfold upd
  rw[Yr]
  intro he
  subst he
  simp at this
 constructor
 ·exact fun h q a=>(key q a)▸h q a
 ·exact fun h q a=>(key q a).trans (h q a)
theorem wV{e:Nat}:∀{env:BG},fresh e env=true→∀j,K3 e (lk env j)=true
 |[],_,j=>rfl
 |(i,c)::r,h,j=>by
  simp only[fresh,Ha,Ya]at h
  simp only[lk]
  split
  ·exact h.1
  ·exact wV h.2 j
theorem eg{env:BG}{e:Nat}{c:Cn}(j:Nat):lk ((e,c)::env) j=if j=e then c else lk env j:=by
 simp only[lk]
 by_cases h:j=e
 ·subst h;simp
 ·rw[Yr h]
  split
  ·rename_i a;exact absurd (Yc a).symm h
  ·rfl
def GR(env:BG)(c:Cn):Operand→Bool
 |.tmp t=>Pk (lk env t) c
 |_=>true
def BU(env:BG)(c:Cn):Op→Bool
 |.pick (.tmp d) x y=>GR env c (.tmp d)&&GR env ((d,true)::c) x&&GR env ((d,false)::c) y
 |op=>op.operands.toList.all (GR env c)
structure RenOk (r:Ren) (l outs:Nat):Prop where
 own:∀d,r.κ (1,d)=(l+1,d)
 out:∀i,i<outs→(r.κ (0,i)).1≤l
 inj:∀i j,i<outs→j<outs→r.κ (0,i)=r.κ (0,j)→i=j
 no:∀k,r.no k→∃i,i<outs∧r.κ (0,i)=k
structure RG (r:Ren) (l outs:Nat) (env:BG) (τ σ:St):Prop where
 s:∀j,(CD τ.s (lk env j)→σ.s j=ren r (τ.s j))∧(¬CD τ.s (lk env j)→σ.s j=.tup [])
 h:C3 r τ.H σ.H
 g:∀d,(σ.H (l+1,d)).g=r.γ (1,d)+(τ.H (1,d)).g
 go:∀i,i<outs→(σ.H (r.κ (0,i))).g=r.γ (0,i)+(τ.H (0,i)).g
 k:∀k,(τ.H k).live=true→k.1=1∨(k.1=0∧k.2<outs)
 o:∀k:Ac,k.1≤l→¬r.no k→σ.H k=r.H0 k
def GE(P:Program)(l:Nat)(r:Ren)(f:FuncId)(xs:List AV)(c:List (Ac×Blk))(x:AV):Prop:=
 ∀a,(∀p∈c,p.2.live=true→a (r.κ p.1)=AI r p.1 p.2)→(∀k:Ac,k.1≤l→¬r.no k→a k=r.H0 k)→Zcq P f (l+1) (Am r xs) a (fun y b=>y=ren r x∧b=a)
def NZ(P:Program)(l:Nat)(r:Ren)(i:Nat)(xs:List AV)(d:List (Ac×Blk))(x:AV):Prop:=
 ∃f first a,r.θ i=.fn (.func f) first a∧∀b,(∀p∈d,p.2.live=true→b (r.κ p.1)=AI r p.1 p.2)→(∀k:Ac,k.1≤l→¬r.no k→b k=r.H0 k)→Zcq P f (l+1) (first++Am r xs++a) b (fun y c=>y=ren r x∧c=b)
def TE(P:Program)(l:Nat)(r:Ren)(H:Hp)(f:AV)(xs:List AV)(g:Option Bool)(a:AT)(K:AV→AT→Prop):Prop:=
 match f,a with
 |.fn (.func i) first b,.call x ks a=>Be g (GE P l r i (first++xs++b) (ks.map fun k=>(k,H k)) x)∧K x a
 |.fn (.yield i) _ _,.call x ks a=>Be g (NZ P l r i xs (ks.map fun k=>(k,H k)) x)∧K x a
 |_,_=>False
def T9(T:Nat→Option TI)(τ:St)(t:TypeId)(len:Nat)(parts:List (Nat×Operand))(a:AT)(K:AV→AT→Prop):Prop:=
 match T t with
 |some i=>(match i.elm with
  |some (e,sz)=>(match Nat.ble 1 sz,len with
   |true,0=>(match parts with|[]=>K .e0 a|_=>False)
   |true,len+1=>(match T e,Nat.ble ((len+1)*sz) 16777216 with
    |some j,true=>(match j.zer with
     |some z=>(match Nat.beq z.length sz,EZ sz 0 (parts.map fun p=>(p.1,ev τ.s p.2))with
      |true,some es=>(match Nat.beq es.length (len+1)with|true=>K (.d (.list es)) a|false=>False)
      |_,_=>False)
     |none=>False)
    |_,_=>False)
   |_,_=>False)
  |none=>False)
 |none=>False
def pV(P:Program)(T:Nat→Option TI)(l:Nat)(r:Ren)(τ:St)(op:Op)(g:Option Bool)(a:AT)(K:AV→AT→Prop):Prop:=
 match op with
 |.call c=>match c.callee with
  |.value f=>TE P l r τ.H (ev τ.s f) (c.args.toList.map (ev τ.s)) g a K
  |_=>tV T τ.H op (ev τ.s) g a K
 |.buildSlice t len parts=>T9 T τ t len parts.toList a K
 |op=>tV T τ.H op (ev τ.s) g a K
def Es(n d:Nat)(K:St→AT→Prop)(τ:St)(v:AV)(a:AT):Prop:=
 match Nat.ble (d+1) n with
 |true=>K ⟨upd τ.s d v,τ.H⟩ a
 |false=>False
section
variable {P:Program} {T:Nat→Option TI} {r:Ren} {l n outs:Nat} {env:BG} {τ σ:St} {g:Option Bool} {a:AT} {c:Cn}
theorem ZKr(v:Value):ren r (cv v)=cv v:=by unfold cv;split<;>simp[ren]
theorem Jf(h:RG r l outs env τ σ)(hs:CD τ.s c){x:Operand}(b:GR env c x=true):ev σ.s x=ren r (ev τ.s x):=by
 cases x with
 |tmp t=>exact(h.s t).1 fun q a=>hs q (wO b q a)
 |const v=>exact(ZKr v).symm
 |global g=>simp[ev,ren]
 |func f=>simp[ev,ren,Am]
theorem Fj(h:RG r l outs env τ σ)(hs:CD τ.s c){op:Op}(a:op.operands.toList.all (GR env c)=true):∀x∈op.operands,ev σ.s x=ren r (ev τ.s x):=
 fun x hm=>Jf h hs (Yy.1 a x (by simpa using hm))
theorem zu(u:A7 P T)(h:RG r l outs env τ σ)(hs:CD τ.s c)(v:∀b,g=some b→b=true){op:Op}(i:BU env c op=true){K:AV→AT→Prop}(j:tV T τ.H op (ev τ.s) g a K):
  AZ P σ.H op (ev σ.s) (KR r K):=by
 unfold BU at i
 split at i
 ·rename_i d x y
  simp only[Ya]at i
  obtain⟨⟨o,p⟩,s⟩:=i
  have f:=j
  simp only[tV]at f
  split at f
  ·rename_i t m
   have n:=Jf h hs o
   refine ve (T:=T) (H:=τ.H) (g:=g) (a:=a) m n (fun e=>Jf h (c:=(d,true)::c) ?_ p) (fun e=>Jf h (c:=(d,false)::c) ?_ s) j
   all_goals
    subst e
    intro q k
    rcases YM.1 k with rfl|k
    ·exact m
    ·exact hs q k
  grind
 ·exact Zwc u h.h v (Fj h hs i) j
theorem de(h:RG r l outs env τ σ)(hs:CD τ.s c)(t:∀b,g=some b→b=true){cl:Call}{f:Operand}(q:cl.callee=.value f)(m:BU env c (.call cl)=true){K:AV→AT→Prop}
  (e:TE P l r τ.H (ev τ.s f) (cl.args.toList.map (ev τ.s)) g a K):
  ∃i first d x j,ev σ.s f=.fn (.func i) first d∧Zcq P i (l+1) (first++cl.args.toList.map (ev σ.s)++d) σ.H (fun y u=>y=ren r x∧u=σ.H)∧K x j:=by
 have m:(Op.call cl).operands.toList.all (GR env c)=true:=m
 have s:=Fj h hs m f (by simp[Op.operands,Call.operands,q])
 have n:cl.args.toList.map (ev σ.s)=Am r (cl.args.toList.map (ev τ.s)):=ed fun x hm=>Fj h hs m x (by simp only[Op.operands,Call.operands,q,L7];exact .inr (by simpa using hm))
 have o:∀ks:List Ac,∀p∈ks.map fun k=>(k,τ.H k),p.2.live=true→σ.H (r.κ p.1)=AI r p.1 p.2:=fun ks p e hl=>by
  obtain⟨k,B,rfl⟩:=Y0.1 e
  exact h.h k hl
 unfold TE at e
 split at e
 ·rename_i i first d x ks j he
  have w:GE _ _ _ _ _ _ _:=Bo t e.1
  refine⟨i,Am r first,Am r d,x,j,by rw[s,he];simp[ren],?_,e.2⟩
  rw[n,←FP,←FP]
  exact w σ.H (o ks) h.o
 ·rename_i i xs ys x ks j he
  obtain⟨v,first,d,z,A⟩:NZ _ _ _ _ _ _ _:=Bo t e.1
  refine⟨v,first,d,x,j,by rw[s,he];simp[ren,z],?_,e.2⟩
  rw[n]
  exact A σ.H (o ks) h.o
 grind
theorem RG.put(h:RG r l outs env τ σ){e:Nat}{ch:Cn}(b:fresh e env=true)(c:K3 e ch=true){v:AV}{y:AV}(hy:CD τ.s ch→y=ren r v)(d:¬CD τ.s ch→y=.tup []):
  RG r l outs ((e,ch)::env) ⟨upd τ.s e v,τ.H⟩ ⟨upd σ.s e y,σ.H⟩:=by
 refine⟨fun j=>?_,h.h,h.g,h.go,h.k,h.o⟩
 simp only
 rw[eg]
 by_cases a:j=e
 ·subst a
  rw[Ys rfl,w3 c]
  simp only[upd,YJ]
  grind
 ·rw[Yr a,w3 (wV b j)]
  simp only[upd,Yr a]
  exact h.s j
end
end Go.Eng
