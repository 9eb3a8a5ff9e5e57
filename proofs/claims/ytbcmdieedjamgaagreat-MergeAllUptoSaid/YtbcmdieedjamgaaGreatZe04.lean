import Derived.Test.YtbcmdieedjamgaaGreatZe03
import Derived.Test.YtbcmdieedjamgaaGreatZe01
import Derived.Maps.RangeRun
import Derived.Test.YtbcmdieedjamgaaGreatZe02
import Derived.Test.YtbcmdieedjamgaaGreatZe00
namespace Go.Eng
open Go
set_option linter.all false
inductive Waits (ops:Array Oper):Nat→Nat→Prop
 |one {j i:Nat} {oj:Oper} {e:Edge} (hj:ops[j]?=some oj) (he:e∈oj.after) (hb:Region.binds .any e=true) (hi:e.on=i):Waits ops j i
 |more {j m i:Nat} {oj:Oper} {e:Edge} (hj:ops[j]?=some oj) (he:e∈oj.after) (hb:Region.binds .any e=true) (hm:e.on=m) (h:Waits ops m i):Waits ops j i
def PO(L:List Oper)(i:Nat):Nat→Nat→Bool
 |0,_=>false
 |a+1,j=>match Bk L j with|some b=>b.after.toList.any fun e=>Region.binds .any e&&(Nat.beq e.on i||PO L i a e.on)|none=>false
theorem dw{L:List Oper}{i:Nat}:∀(a j:Nat),PO L i a j=true→Waits L.toArray j i
 |0,j,h=>by cases h
 |a+1,j,h=>by
  unfold PO at h
  rw[Cn]at h
  split at h
  ·rename_i f d
   obtain⟨e,he,h⟩:=YR.1 h
   rw[Yc,YH]at h
   have c:L.toArray[j]?=some f:=by simpa using d
   rcases h.2 with b|b
   ·exact .one c (by simpa using he) h.1 (Yd b)
   ·exact .more c (by simpa using he) h.1 rfl (dw a _ b)
  ·cases h
def DC(ops:Array Oper)(a:Array Bool):Prop:=∀(m:Nat) (b:Oper),ops[m]?=some b→a.getD m false=true→∀e∈b.after,Region.binds .any e=true→a.getD e.on false=true
theorem DC.waits{ops:Array Oper}{a:Array Bool}(h:DC ops a){j i:Nat}(d:Waits ops j i):a.getD j false=true→a.getD i false=true:=by
 induction d with
 |one c he b hi=>intro hl;rw[←hi];exact h _ _ c hl _ he b
 |more c he b hm _ e=>intro hl;exact e (by rw[←hm];exact h _ _ c hl _ he b)
theorem ZIc{a:Array Bool}{i:Nat}(h:a.getD i true=false):a.getD i false=false:=by
 grind
theorem DC.ready{ops:Array Oper}{a:Array Bool}(h:DC ops a){j:Nat}(g:j∈Region.ready .any ops a):DC ops (a.setIfInBounds j true):=by
 obtain⟨k,l,d,b⟩:=mem_ready.1 g
 intro m i hm hl e he f
 by_cases c:j=m
 ·subst c
  rw[d]at hm
  cases hm
  exact getD_set_true (b e he f)
 ·rw[getD_set_ne false c]at hl
  exact getD_set_true (h m i hm hl e he f)
theorem DC.nowait{ops:Array Oper}{a:Array Bool}(h:DC ops a){j i:Nat}(k:j∈Region.ready .any ops a)(hi:a.getD i true=false):¬Waits ops j i:=fun l=>by
 obtain⟨m,n,d,c⟩:=mem_ready.1 k
 have hi:=ZIc hi
 cases l with
 |one b he f g=>
  grind
 |more b he f hm e=>
  rw[d]at b
  cases b
  have:=h.waits e (by rw[←hm];exact c _ he f)
  grind
def BY(o:Oper):Bool:=match o.op,o.dst,o.guard with
 |.store _ _ _,none,none=>true
 |_,_,_=>false
def Hz(o:Oper):Bool:=match o.op with
 |.move _=>true
 |.binOp b _ _ _ _=>(match b with|.add=>true|.sub=>true|_=>false)
 |.indexAddr _ _ _=>true
 |.fieldAddr _ _ _=>true
 |.nilCheck _=>true
 |_=>false
def aU(H H':Hp):Prop:=∀k,(H' k).g=(H k).g∧(H' k).live=(H k).live∧(H' k).sz=(H k).sz
def OA(L:List Oper)(p:Oper)(k:Nat):Bool:=B7 p k||p.after.toList.any fun e=>Region.binds .any e&&(match L[e.on]? with|some a=>B7 a k|none=>false)
def SF(L:List Oper)(o:Oper)(k:Nat):Nat→List Oper→Bool
 |_,[]=>true
 |j,p::r=>(match BY o with|true=>B7 p k|false=>true)&&(match BY p with|true=>Hz o||OA L p k|false=>true)&&!B7 o j&&SF L o k (j+1) r
def Lz(L:List Oper):Nat→List Oper→Bool
 |_,[]=>true
 |k,o::r=>SF L o k (k+1) r&&Lz L (k+1) r
theorem ZuV{L:List Oper}{o:Oper}{k:Nat}:∀{l:List Oper} {j i:Nat} {p:Oper},SF L o k j l=true→l[i]?=some p→(BY o=true→B7 p k=true)∧(BY p=true→Hz o=true∨OA L p k=true)∧B7 o (j+i)=false
 |[],j,i,p,_,h=>by simp at h
 |q::r,j,i,p,a,h=>by
  simp only[SF,Yc,YK]at a
  cases i with
  |zero=>
   grind
  |succ i=>
   have:=ZuV a.2 (i:=i) (by simpa using h)
   grind
theorem fU{L:List Oper}:∀{l:List Oper} {k i j:Nat} {o p:Oper},Lz L k l=true→i<j→l[i]?=some o→l[j]?=some p→(BY o=true→B7 p (k+i)=true)∧(BY p=true→Hz o=true∨OA L p (k+i)=true)∧B7 o (k+j)=false
 |[],k,i,j,o,p,_,_,h,_=>by simp at h
 |q::r,k,i,j,o,p,b,c,h,a=>by
  simp only[Lz,Yc]at b
  cases j with
  |zero=>omega
  |succ j=>
   have a:r[j]?=some p:=by simpa using a
   cases i with
   |zero=>
    simp only[Gl,Yk]at h
    subst h
    have:=ZuV b.1 a
    grind
   |succ i=>
    have:=fU b.2 (Nat.lt_of_succ_lt_succ c) (by simpa using h) a
    grind
theorem ei{p:Oper}{k:Nat}(h:B7 p k=true)(b:∀e∈p.after,Region.binds .any e=true→e.on≠k):False:=by
 unfold B7 at h
 rw[YR]at h
 obtain⟨e,he,a⟩:=h
 simp only[Yc]at a
 exact b e (by simpa using he) a.1 (Yd a.2)
section
variable {P:Program} {l n:Nat} {B:Base} {H H':Hp} {ops:Array Oper} {ρ:Operand→AV}
theorem tR{o:Oper}{v:AV}(h:Hz o=true)(hs:aU H H')(a:qV P l H o ρ v):qV P l H' o ρ v:=by
 obtain⟨e,op,type,pos,after,guard⟩:=o
 cases op<;>simp only[Hz]at h<;>first|(cases h;done)|skip
 case move=>exact a
 case nilCheck=>
  simp only[qV,A2]at a⊢
  unfold Ja at a⊢
  split at a
  ·rename_i k g off _
   obtain⟨b,c,d⟩:=hs k
   grind
  ·exact a
  ·grind
 case fieldAddr=>
  simp only[qV,A2]at a⊢
  unfold E1 at a⊢
  split at a
  ·exact a
  ·rename_i k g off o n _ _
   obtain⟨b,c,d⟩:=hs k
   grind
  ·grind
 case indexAddr=>
  simp only[qV,A2]at a⊢
  unfold Eu at a⊢
  split at a
  ·exact a
  ·rename_i k g off len _ n _ sz _ _ _
   obtain⟨b,c,d⟩:=hs k
   grind
  ·grind
 case binOp=>
  simp only[qV,A2]at a⊢
  unfold CJ at a⊢
  split at a
  ·exact a
  ·exact a
  ·grind
  ·exact a
  ·grind
  ·grind
theorem ZTM{o:Oper}{s:Nat→AV}{v:AV}(h:Hz o=true)(hs:aU H H')(a:YA P l H ops o s v):YA P l H' ops o s v:=by
 unfold YA at a⊢
 split at a
 ·exact tR h hs a
 ·split at a
  ·exact⟨fun e=>tR h hs (a.1 e),a.2⟩
  grind
def GT(P:Program)(l:Nat)(o:Oper)(s:Nat→AV)(H H':Hp):Prop:=match o.op with
 |.store t a x=>match ev s a,CW (ev s x)with
  |.ptr k g off,some vs=>g=(H k).g∧(H k).live=true∧vs.length=P.cellsOf t∧vs≠[]∧off+vs.length≤(H k).cells.length∧(k.1=l+1∨vs.all (AV.low k.1)=true)∧
    H'=updH H k {H k with cells:=(H k).cells.take off++vs++(H k).cells.drop (off+vs.length) }
  |_,_=>False
 |_=>False
theorem ZHP{o:Oper}{s:Nat→AV}(h:GT P l o s H H'):aU H H':=by
 unfold GT at h
 split at h
 ·split at h
  ·obtain⟨_,_,_,_,_,_,rfl⟩:=h
   intro k
   unfold updH
   grind
  grind
 grind
theorem ZNy{o:Oper}{s:Nat→AV}{K:St→Prop}(hs:BY o=true)(h:Bw P l n o K ⟨s,H⟩):∃H',GT P l o s H H'∧K ⟨s,H'⟩:=by
 obtain⟨a,op,type,pos,after,guard⟩:=o
 cases op<;>simp only[BY]at hs<;>first|(cases hs;done)|skip
 cases a with
 |some d=>cases hs
 |none=>
  simp only[Bw]at h
  simp only[GT]
  grind
theorem ZKi{o:Oper}{s:Nat→AV}{K:St→Prop}(hs:BY o=true)(h:GT P l o s H H')(b:K ⟨s,H'⟩):Bw P l n o K ⟨s,H⟩:=by
 obtain⟨a,op,type,pos,after,guard⟩:=o
 cases op<;>simp only[BY]at hs<;>first|(cases hs;done)|skip
 cases a with
 |some d=>cases hs
 |none=>
  simp only[GT]at h
  simp only[Bw]
  grind
theorem ZGL{o:Oper}{s:Nat→AV}{d:Nat}{u:AV}(g:d∉o.looksAt ops)(h:GT P l o (upd s d u) H H'):GT P l o s H H':=by
 have b:∀x∈o.op.operands,ev (upd s d u) x=ev s x:=fun x hx=>by
  cases x with
  |tmp t=>
   have c:t≠d:=fun e=>g (by
    subst e
    exact HD _ (List.mem_filterMap.2 ⟨.tmp t,by simpa using hx,rfl⟩))
   simp[ev,upd,c]
  |_=>rfl
 unfold GT at h⊢
 split at h
 ·rename_i t a x f
  rw[b a (by rw[f];simp[Op.operands]),b x (by rw[f];simp[Op.operands])]at h
  exact h
 grind
variable {fin:Bool} {X:St→Prop}
def Fs(P:Program)(l n:Nat)(ops:Array Oper)(fin:Bool)(X:St→Prop)(i:Nat)(K:St→Prop)(σ:St):Prop:=
 match ops[i]? with
 |none=>K σ
 |some o=>(CY o=true∧∃d v,o.dst=some d∧d<n∧YA P l σ.H ops o σ.s v∧K ⟨upd σ.s d v,σ.H⟩)∨(BY o=true∧∃H',GT P l o σ.s σ.H H'∧K ⟨σ.s,H'⟩)∨(fin=true∧i+1=ops.size∧X σ)
def KS(P:Program)(l n:Nat)(ops:Array Oper)(fin:Bool)(X:St→Prop)(Q:St→Prop):Nat→Array Bool→St→Prop
 |0,a,σ=>Region.ready .any ops a=[]∧Q σ
 |fuel+1,a,σ=>(Region.ready .any ops a=[]→Q σ)∧∀i∈Region.ready .any ops a,Fs P l n ops fin X i (KS P l n ops fin X Q fuel (a.setIfInBounds i true)) σ
theorem ZvJ{i:Nat}{K g:St→Prop}{σ:St}(h:∀s,K s→g s)(b:Fs P l n ops fin X i K σ):Fs P l n ops fin X i g σ:=by
 unfold Fs at*
 split
 ·rename_i e;rw[e]at b;exact h _ b
 ·rename_i o e
  rw[e]at b
  rcases b with⟨a,d,v,c,f,j,k⟩|⟨a,H',c,f⟩|a
  ·exact .inl ⟨a,d,v,c,f,j,h _ k⟩
  ·exact .inr (.inl ⟨a,H',c,h _ f⟩)
  ·exact .inr (.inr a)
theorem ZFF{i j:Nat}{c t:Oper}{d:Nat}{v:AV}(A:ops[j]?=some t)(a:c.dst=some d)(m:c.apart ops t=true)(p:BY t=true→Hz c=true)(r:fin=true→j+1≠ops.size){K:St→Prop}{s:Nat→AV}
  (hy:YA P l H ops c s v) (h:Fs P l n ops fin X j K ⟨upd s d v,H⟩):Fs P l n ops fin X j (fun g=>YA P l g.H ops c g.s v∧K ⟨upd g.s d v,g.H⟩) ⟨s,H⟩:=by
 obtain⟨w,x,y⟩:=Oper.apart_spec m
 unfold Fs at*
 simp only[A]at*
 rcases h with⟨b,e,u,he,o,f,k⟩|⟨b,H',f,k⟩|⟨b,z,_⟩
 ·refine .inl ⟨b,e,u,he,o,km (w d a) f,ZFQ (y e he) hy,?_⟩
  have q:d≠e:=fun e'=>x d a (e'▸he)
  rw[ZwP (Ne.symm q)]
  exact k
 ·exact .inr (.inl ⟨b,H',ZGL (w d a) f,ZTM (p b) (ZHP f) hy,k⟩)
 ·exact absurd z (r b)
theorem Zpf{Q:St→Prop}{i:Nat}{p:Oper}{d:Nat}{v:AV}(hi:ops[i]?=some p)(hq:CY p=true)(E:p.dst=some d)(M:d<n):
  ∀(fuel:Nat) (a:Array Bool) (s:Nat→AV) (H:Hp),
   (∀j w,ops[j]?=some w→j≠i→a.getD j true=false→(∀e∈w.after,Region.binds .any e=true→e.on≠i∧∀b,ops[e.on]?=some b→B7 b i=false)→¬Waits ops j i→p.apart ops w=true∧(BY w=true→Hz p=true)∧(fin=true→j+1≠ops.size))→DC ops a→
   (∀m b,ops[m]?=some b→B7 b i=true→a.getD m true=false)→i∈Region.ready .any ops a→YA P l H ops p s v→
   KS P l n ops fin X Q fuel (a.setIfInBounds i true) ⟨upd s d v,H⟩→KS P l n ops fin X Q (fuel+1) a ⟨s,H⟩:=by
 have x:∀{K:St→Prop} {s:Nat→AV} {H:Hp},YA P l H ops p s v→K ⟨upd s d v,H⟩→Fs P l n ops fin X i K ⟨s,H⟩:=fun hy hK=>by
  unfold Fs;simp only[hi];exact .inl ⟨hq,d,v,E,M,hy,hK⟩
 intro fuel
 induction fuel with
 |zero=>
  intro a s H _ _ U u hy C
  refine⟨fun h=>(by rw[h]at u;cases u),fun j B=>?_⟩
  by_cases c:j=i
  ·subst c;exact x hy C
  ·have:=ready_mono B c
   rw[C.1]at this
   cases this
 |succ fuel ih=>
  intro a s H g Y U u hy C
  refine⟨fun h=>(by rw[h]at u;cases u),fun j B=>?_⟩
  by_cases c:j=i
  ·subst c;exact x hy C
  ·have f:=C.2 j (ready_mono B c)
   obtain⟨r,w,A,q⟩:=mem_ready.1 B
   have t:∀e∈w.after,Region.binds .any e=true→e.on≠i:=fun e he J heq=>by
    have f:=q e he J
    have D:=(mem_ready.1 u).1
    rw[heq]at f
    rcases YF i a.size with y|y
    ·simp[y]at D f;rw[D]at f;cases f
    ·simp[Gm y]at f
   have z:∀e∈w.after,Region.binds .any e=true→e.on≠i∧∀b,ops[e.on]?=some b→B7 b i=false:=fun e he J=>⟨t e he J,fun b T=>by
    cases L:B7 b i with
    |false=>rfl
    |true=>
     have f:=q e he J
     have D:=U _ b T L
     rcases YF e.on a.size with y|y
     ·simp[y]at D f;rw[D]at f;cases f
     ·simp[Gm y]at f⟩
   have N:=g j w A c r z (Y.nowait B (mem_ready.1 u).1)
   have h2:=ZFF (i:=i) A E N.1 N.2.1 N.2.2 hy f
   have o:∀k ok,ops[k]?=some ok→k≠i→(a.setIfInBounds j true).getD k true=false→
     (∀e∈ok.after,Region.binds .any e=true→e.on≠i∧∀b,ops[e.on]?=some b→B7 b i=false)→¬Waits ops k i→p.apart ops ok=true∧(BY ok=true→Hz p=true)∧(fin=true→k+1≠ops.size):=fun k ok hk O I R S=>by
    refine g k ok hk O ?_ R S
    by_cases F:j=k
    ·subst F;exact r
    ·rw[getD_set_ne true F]at I;exact I
   have V:∀m b,ops[m]?=some b→B7 b i=true→(a.setIfInBounds j true).getD m true=false:=fun m b hm L=>by
    by_cases G:j=m
    ·subst G
     rw[A]at hm
     cases hm
     exact(ei L t).elim
    ·rw[getD_set_ne true G];exact U m b hm L
   refine ZvJ (fun Z W=>ih (a.setIfInBounds j true) Z.s Z.H o (Y.ready B) V (ready_mono u (Ne.symm c)) W.1 ?_) h2
   rw[jC _ _ c]
   exact W.2
theorem ej{K K0:St→Prop}{m:Nat}(q:∀k (a:Array Bool) (s:Nat→AV) (H:Hp),k+m=ops.size→(∀j,a.getD j true=false→k≤j)→Region.lexFrom .any ops m k a=true→K0 ⟨s,H⟩→KS P l n ops fin X K m a ⟨s,H⟩)(x:fin=true→∀i,i+1<ops.size→Waits ops (ops.size-1) i)(A:∀i j O w,i<j→ops[i]?=some O→ops[j]?=some w→(BY O=true→B7 w i=true)∧(BY w=true→Hz O=true∨OA ops.toList w i=true)∧B7 O j=false):
  ∀(rest:List Oper) (k:Nat) (a:Array Bool) (s:Nat→AV) (H:Hp),rest.all (fun o=>CY o||BY o)=true→(∀j,a.getD j true=false→k≤j)→(∀j,k≤j→j<ops.size→a.getD j true=false)→
  k+rest.length+m=ops.size→DC ops a→(∀j,j<rest.length→rest[j]?=ops[k+j]?)→Region.lexFrom .any ops (rest.length+m) k a=true→DT P l n (ops.toList.map (·.dst)) rest K0 ⟨s,H⟩→KS P l n ops fin X K (rest.length+m) a ⟨s,H⟩
 |[],k,a,s,H,_,G,_,u,_,_,D,h=>by
  simp only[GU,YN,GX]at D u⊢
  exact q k a s H u G D h
 |o::rest,k,a,s,H,hq,G,hk2,u,hD,hl,D,h=>by
  have N:ops[k]?=some o:=by simpa using(hl 0 (by simp)).symm
  rw[Dt,Nat.add_right_comm]at D⊢
  simp only[Region.lexFrom,Yc]at D
  obtain⟨⟨E,hf⟩,R⟩:=D
  have E:k∈Region.ready .any ops a:=by simpa using E
  simp only[IY,Yc,YH]at hq
  have V:∀j,(a.setIfInBounds k true).getD j true=false→k+1≤j:=fun j F=>by
   by_cases p:k=j
   ·subst p
    exfalso
    rcases YF k a.size with M|M
    ·simp[M]at F
    grind
   ·rw[getD_set_ne true p]at F
    grind
  have I:∀j,k+1≤j→j<ops.size→(a.setIfInBounds k true).getD j true=false:=fun j h1 h2=>by
   rw[getD_set_ne true (by omega)]
   grind
  have hu:∀m om,ops[m]?=some om→B7 om k=true→a.getD m true=false:=fun m om hm ho=>by
   grind
  have Y:∀j,j<rest.length→rest[j]?=ops[k+1+j]?:=fun j F=>by have:=hl (j+1) (by simp;omega);simpa[YI,NZ 1 j]using this
  have next:∀s' H',DT P l n (ops.toList.map (·.dst)) rest K0 ⟨s',H'⟩→KS P l n ops fin X K (rest.length+m) (a.setIfInBounds k true) ⟨s',H'⟩:=fun s' H' M=>
   ej q x A rest (k+1) _ s' H' (by simpa using hq.2) V I (by simp only[Dt]at u;omega) (hD.ready E) Y R M
  by_cases f:BY o=true
  ·
   have z:o.guard=none:=by
    cases z:o.guard with
    |none=>rfl
    |some _=>obtain⟨Q,op,type,pos,after,guard⟩:=o;simp only at z;subst z;cases op<;>cases Q<;>simp[BY]at f
   have L:Bw P l n o (DT P l n (ops.toList.map (·.dst)) rest K0) ⟨s,H⟩:=by
    unfold DT at h
    simp only[z]at h
    unfold FX at h
    split at h
    ·rename_i S;simp[BY,S]at f
    ·rename_i c S;simp[BY,S]at f
    ·exact h
   obtain⟨H',hS,hK⟩:=ZNy f L
   refine⟨fun h=>(by rw[h]at E;cases E),fun j F=>?_⟩
   by_cases p:j=k
   ·subst p
    unfold Fs
    grind
   ·exfalso
    obtain⟨g,w,r,hall⟩:=mem_ready.1 F
    have W:=G j g
    have he:=(A k j o w (by omega) N r).1 f
    refine ei he fun e he y heq=>?_
    grind
  ·have C:CY o=true:=by rcases hq.1 with h|h;exact h;exact absurd h f
   have hst:∃d v,o.dst=some d∧d<n∧YA P l H ops o s v∧DT P l n (ops.toList.map (·.dst)) rest K0 ⟨upd s d v,H⟩:=by
    unfold DT at h
    unfold YA
    cases z:o.guard with
    |none=>simp only[z]at h;exact zT C h
    |some gw=>
     obtain⟨i,b⟩:=gw
     simp only[z]at h⊢
     split at h
     ·rename_i t ht
      cases t with
      |true=>
       obtain⟨d,v,h1,h2,h3,h4⟩:=zT C (h.1 rfl)
       grind
      |false=>
       grind
     grind
   obtain⟨d,v,hd,T,hy,hK⟩:=hst
   refine Zpf N C hd T (rest.length+m) a s H (fun j w r p g J Z=>⟨Region.free_spec N hf j w r p g (fun e he y=>(J e he y).1),fun hsj=>?_,fun U B=>Z (by have:=x U k (by have:=G j g;omega);rwa [←B,Nat.add_sub_cancel]at this)⟩) hD hu E hy (next _ _ hK)
   have W:=G j g
   rcases(A k j o w (by omega) N r).2.1 hsj with h|h
   ·exact h
   ·exfalso
    unfold OA at h
    rw[YH]at h
    rcases h with h|h
    ·exact ei h fun e he y=>(J e he y).1
    ·obtain⟨e,he,y⟩:=YR.1 h
     rw[Yc]at y
     obtain⟨Dr,Au⟩:=y
     split at Au
     ·grind
     grind
theorem ZmM{i:Nat}{σ:St}{a:Act}{w:World}{K:St→Prop}{q:Act→World→Prop}{f:Exit→Act→World→Prop}(r:R l n B σ a w)
  (h:∀σ a w,R l n B σ a w→K σ→q a w) (L:fin=true→i+1=ops.size→X σ→wpOp P ops f i q a w) (A:Fs P l n ops fin X i K σ):wpOp P ops f i q a w:=by
 have z:=L
 obtain⟨s,H⟩:=σ
 unfold Fs at A
 unfold wpOp
 split
 ·grind
 ·rename_i o G
  simp only[G]at A
  rcases A with⟨C,d,v,F,g,hy,E⟩|⟨k,H',y,E⟩|⟨T,U,V⟩
  rotate_left 2
  ·have:=z T U V
   unfold wpOp at this
   simpa only[G]using this
  ·have go:qV P l H o (ev s) v→o.wp P a w q f:=fun Q=>by
    have:=ZQ7 (B:=B) C F g Q a w r f
    refine Oper.wp_mono (fun I w' ⟨D,e,x⟩=>?_) this
    grind
   unfold YA at hy
   cases c:o.guard with
   |none=>
    simp only[c]at hy
    rw[Yi (by simp[Region.wanted,c])]
    grind
   |some J=>
    obtain⟨j,b⟩:=J
    simp only[c]at hy
    split at hy
    ·rename_i t O
     have p:(yielded ops a.tmps j==some b)=t:=by
      obtain⟨m,S,W,Y,M,y,N⟩:=r.un
      exact zO y O
     cases t with
     |true=>
      rw[Yi (by simp only[Region.wanted,c];exact p)]
      grind
     |false=>
      rw[Ym (by simp only[Region.wanted,c,p];decide)]
      have:=hy.2 rfl
      subst this
      rw[F]
      exact h _ _ _ (R.undef r g) E
    grind
  ·have c:o.guard=none:=by
    cases c:o.guard with
    |none=>rfl
    |some _=>obtain⟨u,op,type,pos,after,guard⟩:=o;simp only at c;subst c;cases op<;>cases u<;>simp[BY]at k
   rw[Yi (by simp[Region.wanted,c])]
   refine .inl ?_
   have:=ME (B:=B) (ZKi (n:=n) (K:=fun D=>D=⟨s,H'⟩) k y rfl) a w r f
   refine Oper.wp_mono (fun I w' ⟨D,e,x⟩=>?_) this
   grind
theorem zf{c:Exit→Act→World→Prop}{b:Array Bool}(h:Region.ready .any ops b=[]){a:Act}{w:World}(d:c .normal a w):∀fuel,wpAny P .any ops c fuel b a w
 |0=>⟨h,d⟩
 |_+1=>⟨fun _=>d,fun i hi=>by rw[h]at hi;cases hi⟩
theorem dl{Q:St→Prop}{p:Exit→Act→World→Prop}(r:∀σ a w,R l n B σ a w→Q σ→p .normal a w)(c:fin=true→∀i,i+1<ops.size→Waits ops (ops.size-1) i)(z:fin=true→∀σ a w,R l n B σ a w→X σ→∀o,ops[ops.size-1]?=some o→wpList P ops p [o] a w):
  ∀(fuel:Nat) (b:Array Bool) (σ:St) (a:Act) (w:World),DC ops b→R l n B σ a w→KS P l n ops fin X Q fuel b σ→wpAny P .any ops p fuel b a w
 |0,_,_,_,_,_,f,h=>⟨h.1,r _ _ _ f h.2⟩
 |fuel+1,b,σ,a,w,y,f,h=>⟨fun v=>r _ _ _ f (h.1 v),fun i hi=>ZmM f (fun s' u w' s E=>dl r c z fuel _ s' u w' (y.ready hi) s E) (fun D K I=>by
  obtain⟨v,o,C,A⟩:=mem_ready.1 hi
  have e:ops.size-1=i:=by omega
  have hw:=z D σ a w f I o (by rw[e];exact C)
  have k:Region.ready .any ops (b.setIfInBounds i true)=[]:=by
   refine List.eq_nil_iff_forall_not_mem.2 fun j F=>?_
   obtain⟨m,J,t,_⟩:=mem_ready.1 F
   have G:j<ops.size:=(GY.1 t).1
   by_cases g:i=j
   ·subst g
    rcases YF i b.size with q|q
    ·simp[q]at m
    ·simp[Gm q]at m
   ·rw[getD_set_ne true g]at m
    have x:=c D j (by omega)
    rw[e]at x
    exact y.nowait hi m x
  unfold wpOp
  simp only[C]
  unfold wpList at hw
  split
  ·rename_i d
   rw[Yi d]at hw
   exact hw.imp (Oper.wp_mono fun u w' H=>zf k H _) id
  ·rename_i d
   rw[Ym d]at hw
   exact zf k hw _) (h.2 i hi)⟩
theorem DC.none(n:Nat):DC ops (Array.replicate n false):=fun m b _ h=>by
 rw[YC]at h
 rcases YF m n with a|a
 ·simp[a]at h
 ·simp[Nat.not_lt.2 a]at h
theorem Zpu{id:Nat}{ops:List Oper}{σ:St}{Q:Exit→St→Prop}(hm:P.follows .mixedOrders=true)(c:Region.lexB .any ops.toArray=true)(D:ops.all (fun o=>CY o||BY o)=true)(hs:Lz ops 0 ops=true)
  (h:DT P l n (ops.map (·.dst)) ops (Q .normal) σ):BH P l n B (.region id ops.toArray true) Q σ:=by
 intro a w y
 obtain⟨s,H⟩:=σ
 simp only[Region.lexB,Yc]at c
 have v:=ej (P:=P) (l:=l) (n:=n) (ops:=ops.toArray) (K:=Q .normal) (K0:=Q .normal) (m:=0) (fin:=false) (X:=fun _=>False) (fun k d s H _ _ c h=>⟨by simpa[Region.lexFrom]using c,h⟩) (fun e=>by cases e) (fun i j F G q hi A=>by
   have:=fU hs q (by simpa using hi) (by simpa using A)
   simpa using this) ops 0 (Array.replicate ops.toArray.size false) s H D (fun _ _=>Ck _) (fun j _ h=>by simp at h;simp[h]) (by simp) (DC.none _) (by simp) (by simpa using c.2) (by simpa using h)
 have f:R l n B ⟨s,H⟩ a {w with drawn:=w.drawn+1 }:=by
  obtain⟨m,S,x,C,g,z,p⟩:=y.un
  obtain⟨t,u⟩:=x.drew (w':={w with drawn:=w.drawn+1 }) rfl rfl rfl rfl
  exact R.keep t C g z p u
 refine wp_region_any hm (dl (Q:=Q .normal) (fin:=false) (X:=fun _=>False) (fun I E w' b r=>⟨_,r,b⟩) (fun e=>by cases e) (fun e=>by cases e) _ _ _ a _ (DC.none _) f (by simpa using v))
theorem ZqJ{id:Nat}{L:List Oper}{o:Oper}{σ:St}{QQ:Exit→Act→World→Prop}{X:St→Prop}(hm:P.follows .mixedOrders=true)(d:Region.lexB .any (L++[o]).toArray=true)(M:L.all (fun o=>CY o||BY o)=true)(hs:Lz (L++[o]) 0 (L++[o])=true)
  (N:∀i,i<L.length→Waits (L++[o]).toArray L.length i) (h:DT P l n ((L++[o]).map (·.dst)) L X σ) (I:∀σ a w,R l n B σ a w→X σ→wpList P (L++[o]).toArray QQ [o] a w) {a:Act} {w:World} (p:R l n B σ a w):(Code.region id (L++[o]).toArray true).wp P QQ a w:=by
 obtain⟨s,H⟩:=σ
 simp only[Region.lexB,Yc]at d
 have c:true=true→∀i,i+1<(L++[o]).toArray.size→Waits (L++[o]).toArray ((L++[o]).toArray.size-1) i:=fun _ i hi=>by
  have:=N i (by simpa using hi)
  simpa using this
 have E:=ej (P:=P) (l:=l) (n:=n) (ops:=(L++[o]).toArray) (K:=fun _=>False) (K0:=X) (m:=1) (fin:=true) (X:=X) (fun k b s H V hl d h=>by
   simp only[Region.lexFrom,Yc]at d
   have D:k∈Region.ready .any (L++[o]).toArray b:=by simpa using d.1.1
   refine⟨fun g=>(by rw[g]at D;cases D),fun i hi=>?_⟩
   obtain⟨g,T,f,_⟩:=mem_ready.1 hi
   have z:=hl i g
   have A:i<(L++[o]).toArray.size:=(GY.1 f).1
   unfold Fs
   simp only[f]
   refine .inr (.inr ?_)
   exact And.intro (by first|rfl|trivial) (And.intro (by omega) h)) c (fun i j T W u hi v=>by
   have:=fU hs u (by simpa using hi) (by simpa using v)
   simpa using this) L 0 (Array.replicate (L++[o]).toArray.size false) s H M (fun _ _=>Ck _) (fun j _ h=>by simp at h;simp[h]) (by simp) (DC.none _) (fun j v=>by simp[Ys v]) (by simpa using d.2) (by simpa using h)
 have q:R l n B ⟨s,H⟩ a {w with drawn:=w.drawn+1 }:=by
  obtain⟨m,S,F,J,r,G,t⟩:=p.un
  obtain⟨z,A⟩:=F.drew (w':={w with drawn:=w.drawn+1 }) rfl rfl rfl rfl
  exact R.keep z J r G t A
 refine wp_region_any hm (dl (Q:=fun _=>False) (fin:=true) (X:=X) (fun Y U w' C y=>y.elim) c (fun _ σ a w p hx O x=>?_) _ _ _ a _ (DC.none _) q (by simpa using E))
 have e:O=o:=by simpa using x.symm
 subst e
 exact I σ a w p hx
end
end Go.Eng
namespace Go.Eng
set_option linter.all false
open Go Go.RowKit
section
variable {P:Program} {T:Nat→Option TI} {r:Ren} {H H':Hp} {g:Option Bool} {a:AT} {K:AV→AT→Prop}
def KR(r:Ren)(K:AV→AT→Prop)(y:AV):Prop:=∃v a,y=ren r v∧K v a
theorem KR.mk{v:AV}{a:AT}(h:K v a):KR r K (ren r v):=⟨v,a,rfl,h⟩
theorem KR.mk'{v y:AV}{a:AT}(h:K v a)(e:y=ren r v):KR r K y:=⟨v,a,e,h⟩
theorem lB{t:TypeId}{i:TI}(hi:TIok P t i)(h:(i.str||i.elm.isSome)=true):J0 P t=true:=by
 rw[YH]at h
 unfold J0
 rcases h with h|h
 ·have:=hi.str h
  unfold Md at this
  split at this
  ·rename_i a _;rw[a]
  ·cases this
 ·obtain⟨e,he⟩:=Y5.1 h
  obtain⟨b,c⟩:=e
  have:=(E2 (hi.elm _ he)).1
  rw[this]
theorem dA{t:TypeId}{i:TI}(hi:TIok P t i)(y:DK r H H')(p:∀b,g=some b→b=true){x:AV}(h:M7 i H x g a K):EF P H' t (ren r x) (KR r K):=by
 unfold M7 at h
 cases x<;>simp only at h<;>try exact h.elim
 case iptr cs off=>
  simp only[ren,EF,hi.agg,hi.siz]
  split at h
  ·rename_i he
   rw[he]
   split at h
   ·rename_i c d f
    obtain⟨m,n⟩:=eo _ _ _ f
    have d:=Yh d
    rw[YX]at n
    exact⟨by omega,by omega,.mk' h (by rw[m,ren,HX])⟩
   grind
  ·rename_i he
   rw[he]
   rw[Cn]at h
   simp only
   split at h
   ·rename_i c o;simp only[o];exact .mk' h rfl
   grind
 case ptr k q off=>
  simp only[ren,EF,hi.agg,hi.siz]
  split at h
  ·rename_i hl
   obtain⟨s,u,z,A,v⟩:=y.at hl
   refine⟨s,u,?_⟩
   rw[v]
   split at h
   ·split at h
    ·rename_i he
     rw[he]
     split at h
     ·rename_i c d f
      obtain⟨m,n⟩:=eo _ _ _ f
      have d:=Yh d
      rw[YX]at n
      exact⟨by omega,by rw[CF];omega,.mk' h (by rw[ren,EY,FI,m])⟩
     grind
    ·rename_i he
     rw[he]
     rw[Cn]at h
     split at h
     ·rename_i c o;simp only[HU,o,YY];exact .mk' h rfl
     grind
   ·split at h
    ·rename_i he
     rw[he]
     split at h
     ·rename_i c B d f
      have d:=Yh d
      have f:=Yd f
      have j:DR _ _ _:=Bu p h.1
      unfold DR at j
      rw[f]at j
      have w:=congrArg List.length j
      rw[Yy,YX]at w
      exact⟨by omega,by rw[CF];omega,.mk' h.2 (by rw[ren,EY,FI,j])⟩
     grind
    ·rename_i he
     rw[he]
     split at h
     ·rename_i x
      have j:DR _ _ _:=Bu p h.1
      unfold DR at j
      have e:(H k).cells[off]?=some x:=by
       have:=congrArg (fun l=>l[0]?) j
       grind
      simp only[HU,e,YY]
      exact .mk' h.2 rfl
     grind
   grind
  ·grind
theorem MY{t:TypeId}{i:TI}(hi:TIok P t i){f:Nat}{x:Nat×Nat×Bool}(h:Bk i.fld f=some x):fld P t f=some (x.1,x.2.1)∧L2 P t f=some x:=by
 rw[Cn]at h;exact hi.fld f x h
theorem Zhg{t:TypeId}{i:TI}(hi:TIok P t i)(j:DK r H H'){f:Nat}{x:AV}(h:Tn i H f x a K):E1 P H' t f (ren r x) (KR r K):=by
 unfold Tn at h
 split at h
 ·rename_i o n b k
  have e:=(MY hi k).1
  split at h
  ·rename_i c
   have c:=Yh c
   unfold E1
   rw[e]
   split at h
   ·simp only[ren];exact⟨by omega,.mk' h rfl⟩
   ·split at h
    ·rename_i hl
     obtain⟨d,g,_⟩:=j.at hl
     simp only[ren];exact⟨by omega,d,g,.mk' h rfl⟩
    grind
   grind
  grind
 grind
theorem Zl1{t:TypeId}{i:TI}(hi:TIok P t i){f:Nat}{x:AV}(h:UW i f x a K):Fb P t f (ren r x) (KR r K):=by
 unfold UW at h
 rw[ZtJ]
 split at h
 ·rename_i o n cs b
  rw[(MY hi b).2]
  split at h
  ·rename_i d
   have d:=Yh d
   simp only[ren,Oj]
   exact⟨by omega,.mk' h (by rw[ren,EY,FI])⟩
  grind
 ·rename_i o n cs b
  rw[(MY hi b).2]
  rw[Cn]at h
  split at h
  ·rename_i c e
   simp only[ren,Oj,HU,e,YY]
   exact .mk' h rfl
  grind
 grind
theorem Zhf{t:TypeId}{i:TI}(hi:TIok P t i)(w:DK r H H')(m:∀b,g=some b→b=true){x j:AV}(h:To i H x j g a K):Eu P H' t (ren r x) (ren r j) (KR r K):=by
 unfold To at h
 split at h
 ·rename_i e sz k n he
  have he:=hi.elm _ he
  split at h
  ·rename_i y e' q
   split at h
   ·rename_i c d
    have c:=Yd c
    have d:=Yh d
    obtain⟨f,l⟩:I7 _ _ _:=Bu m h.1
    simp only[ren,Eu,he]
    refine⟨f,?_⟩
    rw[l]
    exact⟨c,by omega,.mk' h.2 rfl⟩
   grind
  ·rename_i k q off len o B
   split at h
   ·rename_i hl c d
    have c:=Yd c
    have d:=Yh d
    obtain⟨p,s,z,u,A⟩:=w.at hl
    obtain⟨f,l,v⟩:L6 _ _ _ _ _:=Bu m h.1
    simp only[ren,Eu,he]
    exact⟨f,l,p,s,by rw[u,c],by omega,.mk' h.2 (by rw[ren,v])⟩
   grind
  grind
 grind
theorem ZlZ{t:TypeId}{i:TI}(hi:TIok P t i)(m:∀b,g=some b→b=true){x j:AV}(h:UJ i x j g a K):FM P t (ren r x) (ren r j) (KR r K):=by
 unfold UJ at h
 split at h
 ·rename_i s k n b q
  split at h
  ·rename_i d
   have d:=Yd d
   obtain⟨e,c,f,l⟩:I8 _ _ _:=Bu m h.1
   simp only[ren,FM]
   refine⟨by rw[hi.kin];exact d,e,?_⟩
   rw[f]
   exact .mk' h.2 (by rw[ren,l])
  grind
 grind
theorem Zo0{op:BinOp}{k:IntKind}{x y:Int}(c:∀b,g=some b→b=true)(h:SL op k x y g a K):GH op k x y (KR r K):=by
 unfold SL at h
 cases op<;>simp only at h<;>try exact h.elim
 all_goals simp only[GH]
 case eql=>exact .mk' h rfl
 case neq=>exact .mk' h rfl
 case lss=>exact .mk' h rfl
 case leq=>exact .mk' h rfl
 case gtr=>exact .mk' h rfl
 case geq=>exact .mk' h rfl
 case add|sub|mul=>
  split at h
  ·have e:Cq _ _ _:=Bu c h.1
   unfold Cq at e
   rw[e];exact .mk' h.2 rfl
  ·grind
 case and|or|xor=>
  split at h
  ·have e:BC _ _:=Bu c h.1
   unfold BC at e
   rw[e];exact .mk' h.2 rfl
  ·grind
 case quo=>
  split at h
  ·have e:Cq _ _ _:=Bu c h.2.1
   unfold Cq at e
   rw[e];exact⟨Bu c h.1,.mk' h.2.2 rfl⟩
  ·grind
 case rem=>
  split at h
  ·have e:BC _ _:=Bu c h.2.1
   unfold BC at e
   rw[e];exact⟨Bu c h.1,.mk' h.2.2 rfl⟩
  ·grind
 case shr=>
  split at h
  ·have e:BC _ _:=Bu c h.2.1
   unfold BC at e
   rw[e];exact⟨Bu c h.1,.mk' h.2.2 rfl⟩
  ·grind
 case shl=>
  split at h
  ·have e:Cq _ _ _:=Bu c h.2.1
   unfold Cq at e
   rw[e];exact⟨Bu c h.1,.mk' h.2.2 rfl⟩
  ·grind
theorem Zo8{op:BinOp}{x y:ByteArray}(c:∀b,g=some b→b=true)(h:SH op x y g a K):GI op x y (KR r K):=by
 unfold SH at h
 cases op<;>simp only at h<;>try exact h.elim
 all_goals simp only[GI]
 case add=>exact⟨Bu c h.1,.mk' h.2 rfl⟩
 all_goals exact .mk' h rfl
theorem yW{neg:Bool}{x:AV}(i:DK r H H')(h:Mh H neg x a K):DY H' neg (ren r x) (KR r K):=by
 unfold Mh at h
 split at h
 ·simp only[ren,DY];exact fun b=>.mk' (h b) rfl
 ·rename_i c
  cases c with
  |nil=>simp only[ren,DY];exact fun b=>.mk' (h b (fun e=>absurd rfl e)) rfl
  |cons e c=>simp only[ren,DY];exact .mk' (h neg (fun _=>rfl)) rfl
 ·rename_i k q off n
  split at h
  ·rename_i hl
   obtain⟨f,g,_⟩:=i.at hl
   simp only[ren,DY]
   exact⟨⟨f,g⟩,fun d=>.mk' (h neg (fun _=>rfl)) rfl,fun d b=>.mk' (h b (fun e=>absurd d e)) rfl⟩
  grind
 grind
theorem zi:∀(ks:List Nat) (xs ys:List AV) (b:Bool),EE ks xs ys=some b→EE ks (Ao r xs) (Ao r ys)=some b
 |[],[],[],b,h=>by simpa[Ao]using h
 |k::ks,x::xs,y::ys,b,h=>by
  cases x<;>cases y<;>simp only[EE]at h<;>try (cases h;done)
  rename_i x y
  simp only[Ao,ren,EE]
  split at h
  ·rename_i d e a c
   simp only[a,zi ks xs ys _ c]
   exact h
  ·cases h
 |[],[],_::_,b,h=>by simp[EE]at h
 |[],_::_,_,b,h=>by simp[EE]at h
 |_::_,[],_,b,h=>by simp[EE]at h
 |_::_,x::_,[],b,h=>by cases x<;>simp[EE]at h
theorem ZEN{H:Hp}{op:BinOp}{t:TypeId}{a:Bool}{x:AV}{K:AV→Prop}:CJ P H op t a x .e0 K=(a=true∧kin P t=4∧match op with|.eql=>DY H false x K|.neq=>DY H true x K|_=>False):=by
 unfold CJ
 grind
theorem Zo2{t:TypeId}{i:TI}(hi:TIok P t i)(e:DK r H H')(f:∀b,g=some b→b=true){op:BinOp}{j:Bool}{x y:AV}(h:Ss i H op j x y g a K):CJ P H' op t j (ren r x) (ren r y) (KR r K):=by
 unfold Ss at h
 split at h
 ·split at h
  ·rename_i c
   simp only[ren,CJ]
   exact⟨ZMr c,Zo0 f h⟩
  grind
 ·simp only[ren,CJ];exact Zo8 f h
 ·split at h
  ·rename_i c
   simp only[ren,CJ]
   refine⟨by rw[hi.kin];exact Yd c,?_⟩
   split at h
   ·exact .mk' h rfl
   ·exact .mk' h rfl
   grind
  grind
 ·rename_i xs ys
  split at h
  ·rename_i ks d
   split at h
   ·rename_i b l
    simp only[ren,CJ,Hs,hi.eqt _ d,zi _ _ _ _ l]
    split at h
    ·exact .mk' h rfl
    ·exact .mk' h rfl
    grind
   grind
  grind
 ·rw[show ren r .e0=.e0 from by simp[ren],ZEN]
  split at h
  ·rename_i m k
   refine⟨rfl,by rw[hi.kin];exact Yd k,?_⟩
   split at h
   ·exact yW e h
   ·exact yW e h
   grind
  grind
 grind
theorem Zrq{op:UnOp}{x:AV}(c:∀b,g=some b→b=true)(h:WK op x g a K):ER op (ren r x) (KR r K):=by
 unfold WK at h
 split at h
 ·simp only[ren,ER];exact .mk' h rfl
 ·split at h
  ·have e:Cq _ _ _:=Bu c h.1
   unfold Cq at e
   simp only[ren,ER]
   rw[e];exact .mk' h.2 rfl
  grind
 ·split at h
  ·have e:BC _ _:=Bu c h.1
   unfold BC at e
   simp only[ren,ER]
   rw[e];exact .mk' h.2 rfl
  grind
 grind
theorem Zm5{s d:TypeId}{i j:TI}(hi:TIok P s i)(k:TIok P d j){x:AV}(l:∀b,g=some b→b=true)(h:VQ i j x g a K):Fe P s d (ren r x) (KR r K):=by
 unfold VQ at h
 split at h
 ·split at h
  ·rename_i q n p k' o m t c f
   have e:Cq _ _ _:=Bu l h.1
   unfold Cq at e
   simp only[ren,Fe,hi.ik _ c,k.ik _ f]
   rw[e];exact .mk' h.2 rfl
  grind
 ·split at h
  ·rename_i c f
   simp only[ren,Fe,Jy (by rw[hi.kin];exact Yd c),Jy (by rw[k.kin];exact Yd f)]
   exact .mk' h rfl
  grind
 grind
theorem MW{d l:Nat}{o a:Option AV}(h:D2 d o l)(b:a=o.map (ren r)):Eh d a=some l:=by
 subst b
 unfold D2 at h
 split at h
 ·simp[Eh,h]
 ·subst h
  simp[Eh,ren]
 grind
theorem ZkJ{t:TypeId}{i:TI}(hi:TIok P t i)(B:DK r H H')(c:∀b,g=some b→b=true){x:AV}{lo q:Option AV}{v:Bool}(h:UD i H x lo q v g a K):
  EA P H' t (ren r x) (lo.map (ren r)) (q.map (ren r)) v (KR r K):=by
 unfold UD at h
 split at h
 ·split at h
  ·split at h
   ·rename_i C
    obtain⟨m,n,o,p⟩:=h
    have f:=MW (r:=r) (Bu c m) rfl
    have j:=MW (r:=r) (Bu c n) rfl
    have d:Gi _ _ _:=Bu c o
    simp only[ren,EA,f,j]
    exact⟨by rw[hi.kin];exact Yd C,trivial,d.1,d.2,.mk' p rfl⟩
   grind
  ·split at h
   ·rename_i e sz w D he
    split at h
    ·rename_i l
     have l:=Yh l
     obtain⟨m,n,o,p,u⟩:=h
     have f:=MW (r:=r) (Bu c m) rfl
     have j:=MW (r:=r) (Bu c n) rfl
     have d:Gi _ _ _:=Bu c o
     have k:Rp _ _ _ _ _:=Bu c p
     simp only[ren,EA,f,j,hi.elm _ he]
     exact⟨trivial,by omega,k.1,d.1,d.2,.mk' u (by rw[ren,k.2])⟩
    grind
   grind
  ·split at h
   ·rename_i e sz I G D he hl
    split at h
    ·rename_i l s
     have l:=Yh l
     obtain⟨y,z,E,A,F⟩:=B.at hl
     obtain⟨m,n,o,p,u⟩:=h
     have f:=MW (r:=r) (Bu c m) rfl
     have j:=MW (r:=r) (Bu c n) rfl
     have d:Gi _ _ _:=Bu c o
     have k:W0 _ _ _ _ _:=Bu c p
     simp only[ren,EA,f,j,hi.elm _ he]
     exact⟨trivial,y,z,by omega,by rw[A];exact Yd s,d.1,d.2,.mk' u (by rw[ren,k.1,k.2])⟩
    grind
   grind
  grind
 grind
theorem ZpY{t:TypeId}{i:TI}(hi:TIok P t i)(k:DK r H H')(d:∀b,g=some b→b=true){x:AV}(h:SM i H x g a K):DW P H' t (ren r x) (KR r K):=by
 unfold SM at h
 split at h
 ·split at h
  ·rename_i c
   have e:BC _ _:=Bu d h.1
   unfold BC at e
   simp only[ren,DW,hi.kin]
   exact⟨Yd c,.mk' h.2 (by rw[ren,e])⟩
  grind
 ·split at h
  ·rename_i c
   have e:BC _ _:=Bu d h.1
   unfold BC at e
   simp only[ren,DW,hi.kin]
   exact⟨Yd c,.mk' h.2 (by rw[ren,e])⟩
  grind
 ·split at h
  ·rename_i c
   have e:BC _ _:=Bu d h.1
   unfold BC at e
   simp only[ren,DW,hi.kin]
   exact⟨Yd c,.mk' h.2 (by rw[ren,e])⟩
  grind
 ·split at h
  ·rename_i c hl
   have e:BC _ _:=Bu d h.1
   unfold BC at e
   obtain⟨f,j,_⟩:=k.at hl
   simp only[ren,DW,hi.kin]
   exact⟨Yd c,f,j,.mk' h.2 (by rw[ren,e])⟩
  grind
 grind
theorem ZpK(a:DK r H H'){x:AV}{y:Bool×List (List D)}(h:ig H x=some y):Nk H' (ren r x)=some y:=by
 unfold ig at h
 split at h
 ·simp only[ren,Nk];exact h
 ·split at h
  ·rename_i k g _ _ q b hl he
   obtain⟨c,d,e,_,_⟩:=a.at hl
   simp only[ren,Nk]
   grind
  ·cases h
 ·cases h
theorem ZrO(q:Bool)(ds:List D):ren r (NA q ds)=NA q ds:=by
 unfold NA
 split<;>simp[ren,HX]
theorem ZGI(a q:Bool)(ds:List D)(ok:Bool):ren r (Ny a q ds ok)=Ny a q ds ok:=by
 unfold Ny
 cases a
 ·exact ZrO q ds
 ·simp only[ren,Ao,ZrO]
theorem Zmm{t:TypeId}{i:TI}(hi:TIok P t i)(k:DK r H H')(l:∀b,g=some b→b=true){x y:AV}{c:Bool}(h:VU i H x y c g a K):GG P H' t (ren r x) (ren r y) c (KR r K):=by
 unfold VU at h
 split at h
 ·rename_i q z p o s ok vs n f j
  split at h
  ·rename_i m
   obtain⟨d,e⟩:Qq _ _ _ _ _:=Bu l h.1
   simp only[GG,hi.mp _ f,ZpK k j,ren]
   exact⟨ZQT m,.mk' h.2 (by rw[d,e,ZGI])⟩
  grind
 grind
theorem O8{x:AV}{vs:List AV}(h:CW x=some vs)(hx:∀f xs ys,x≠.fn (.yield f) xs ys):CW (ren r x)=some (Ao r vs):=by
 cases x<;>simp only[CW,Yk]at h<;>try (cases h;done)
 case fn f xs ys=>
  subst h
  cases f with
  |yield i=>exact absurd rfl (hx i xs ys)
  |_=>simp[ren,Ao,CW]
 all_goals(subst h;simp[ren,Ao,CW])
theorem PI{x:AV}(h:Jl x=true):∀f xs ys,x≠.fn (.yield f) xs ys:=by
 rintro f xs ys rfl;cases h
theorem ZLI{t:TypeId}{i:TI}(hi:TIok P t i){f o n:Nat}(h:iR i f=some (o,n)):fld P t f=some (o,n):=by
 unfold iR at h
 split at h
 ·rename_i d c b a
  simp only[Yk,GW]at h
  obtain⟨rfl,rfl⟩:=h
  exact(MY hi a).1
 ·cases h
theorem zb{t:TypeId}{i:TI}(hi:TIok P t i):∀(ps:List (Nat×AV)) (z cs:List AV),(∀p∈ps,Jl p.2=true)→Qv i z ps=some cs→Cy (fld P t) (Ao r z) (ps.map fun p=>(p.1,ren r p.2))=some (Ao r cs)
 |[],z,cs,_,h=>by
  simp only[Qv,Yk]at h
  subst h
  simp[Cy]
 |(f,v)::ps,z,cs,e,h=>by
  simp only[Qv]at h
  split at h
  ·rename_i off size vs a g
   split at h
   ·rename_i c d
    have c:=Yd c
    have d:=Yh d
    have b:=O8 (r:=r) g (PI (e (f,v) (Yz ..)))
    simp only[YS,Cy,ZLI hi a,b,CF]
    rw[Ym (by omega)]
    have:=zb hi ps _ cs (fun p a=>e p (Yw _ a)) h
    rw[←this]
    simp only[G4,FI,EY]
   ·cases h
  ·cases h
theorem ZlI{t:TypeId}{i:TI}(hi:TIok P t i){parts:List (Nat×AV)}(e:∀p∈parts,Jl p.2=true)(f:∀z,i.zer=some z→Ao r z=z)(h:Uw i parts a K):
  FP P t (parts.map fun p=>(p.1,ren r p.2)) (KR r K):=by
 unfold Uw at h
 split at h
 ·rename_i z c b
  split at h
  ·rename_i cs d
   have:=zb (r:=r) hi _ _ _ e d
   unfold FP
   rw[hi.zer _ b]
   rw[f z b]at this
   simp only[this]
   exact⟨hi.str c,.mk' h rfl⟩
  grind
 grind
theorem Zx2{x:AV}(h:x.flat=true):ren r x=x:=by cases x<;>first|(simp[ren];done)|cases h
theorem K1{z:List AV}(h:z.all AV.flat=true):Ao r z=z:=by
 induction z with
 |nil=>simp[Ao]
 |cons x z a=>
  simp only[IY,Yc]at h
  rw[Ao,Zx2 h.1,a h.2]
theorem y2{c x y:Operand}{ρ d:Operand→AV}{t:Bool}(e:ρ c=.d (.bool t))(b:d c=ren r (ρ c))(hx:t=true→d x=ren r (ρ x))(hy:t=false→d y=ren r (ρ y))(h:tV T H (.pick c x y) ρ g a K):
  A2 P H' (.pick c x y) d (KR r K):=by
 simp only[tV,e]at h
 rw[e]at b
 simp only[ren]at b
 simp only[A2,b]
 rw[Zy1]at h
 cases t
 ·exact .mk' h (by simp[hy rfl])
 ·exact .mk' h (by simp[hx rfl])
theorem eJ{ρ a:Operand→AV}{xs:List Operand}(h:∀x∈xs,a x=ren r (ρ x)):xs.map a=Ao r (xs.map ρ):=by
 rw[FK,IZ]
 exact Ep h
theorem Znp{ρ a:Operand→AV}{o:Option Operand}(h:∀x,o=some x→a x=ren r (ρ x)):o.map a=(o.map ρ).map (ren r):=by
 cases o with
 |none=>rfl
 |some x=>simp[h x rfl]
theorem zp{r:Ren}{b:Bool}{x y:AV}{a:AT}{K:AV→AT→Prop}(h:Em b x y (fun v=>K v a)):Em b (ren r x) (ren r y) (KR r K):=by
 unfold Em at h
 split at h
 ·simp only[ren,Em];exact .mk' h rfl
 grind
theorem Zy0(n:A8 P T)(C:DK r H H')(A:∀b,g=some b→b=true){op:Op}{ρ w:Operand→AV}(Z:∀x∈op.operands,w x=ren r (ρ x))(h:tV T H op ρ g a K):A2 P H' op w (KR r K):=by
 have get:∀{x:Operand},x∈op.operands→w x=ren r (ρ x):=fun hx=>Z _ hx
 cases op<;>simp only[tV]at h<;>try exact h.elim
 case move x=>exact .mk' h (get (by simp[Op.operands]))
 case assign x=>exact .mk' h (get (by simp[Op.operands]))
 case pick c x y=>
  split at h
  ·rename_i t l
   exact y2 (a:=a) (g:=g) (T:=T) (H:=H) l (get (by simp[Op.operands])) (fun _=>get (by simp[Op.operands])) (fun _=>get (by simp[Op.operands])) (by simp only[tV,l];exact h)
  ·grind
 case load t x=>
  split at h
  ·rename_i i hi;simp only[A2];rw[get (x:=x) (by simp[Op.operands])];exact dA (n _ _ hi) C A h
  ·grind
 case fieldAddr t x f=>
  split at h
  ·rename_i i hi;simp only[A2];rw[get (x:=x) (by simp[Op.operands])];exact Zhg (n _ _ hi) C h
  ·grind
 case field t x f=>
  split at h
  ·rename_i i hi;simp only[A2];rw[get (x:=x) (by simp[Op.operands])];exact Zl1 (n _ _ hi) h
  ·grind
 case indexAddr t x j=>
  split at h
  ·rename_i i hi;simp only[A2];rw[get (x:=x) (by simp[Op.operands]),get (x:=j) (by simp[Op.operands])];exact Zhf (n _ _ hi) C A h
  ·grind
 case index t x j=>
  split at h
  ·rename_i i hi;simp only[A2];rw[get (x:=x) (by simp[Op.operands]),get (x:=j) (by simp[Op.operands])];exact ZlZ (n _ _ hi) A h
  ·grind
 case makeInterface t x=>
  split at h
  case h_2=>exact h.elim
  rename_i i hi
  have E:(i.str||i.elm.isSome)=true→J0 P t=true:=lB (n _ _ hi)
  simp only[A2]
  rw[get (x:=x) (by simp[Op.operands])]
  split at h
  ·rename_i xs D hx
   rw[hx]
   simp only[ren]
   split at h
   case h_2=>exact h.elim
   rename_i ds N
   have e:=T3 N
   subst e
   rw[HX,N]
   exact⟨E D,.mk' h rfl⟩
  ·rename_i y D hx
   rw[hx]
   simp only[ren]
   exact⟨E D,.mk' h rfl⟩
  ·exact h.elim
 case typeAssert x u t ok=>
  split at h
  case h_2=>exact h.elim
  rename_i i hi
  have E:(i.str||i.elm.isSome)=true→J0 P t=true:=lB (n _ _ hi)
  simp only[A2]
  rw[get (x:=x) (by simp[Op.operands])]
  split at h
  case h_2=>exact h.elim
  rename_i u ds q D hx
  rw[hx]
  simp only[ren]
  split at h
  case h_2=>exact h.elim
  rename_i v X F
  rw[F]
  have G:ren r v=v:=by
   cases q with
   |true=>cases F;simp only[ren,HX]
   |false=>
    match ds,F with
    |[d],F=>cases F;simp only[ren]
  refine⟨E D,Yd X,.mk' h ?_⟩
  cases ok with
  |true=>simp only[cond,ren,Ao,G]
  |false=>exact G.symm
 case extract x j=>
  simp only[A2]
  rw[get (x:=x) (by simp[Op.operands])]
  split at h
  ·rename_i vs hx
   rw[hx]
   simp only[ren,HU]
   rw[Cn]at h
   split at h
   ·rename_i y hy;rw[hy];exact .mk' h rfl
   grind
  ·grind
 case binOp o t x y u=>
  split at h
  ·rename_i i hi;simp only[A2];rw[get (x:=x) (by simp[Op.operands]),get (x:=y) (by simp[Op.operands])];exact Zo2 (n _ _ hi) C A h
  ·grind
 case unOp o t x=>simp only[A2];rw[get (x:=x) (by simp[Op.operands])];exact Zrq A h
 case nilCheck x=>
  split at h
  ·rename_i k q off hx
   split at h
   ·rename_i hl
    simp only[A2]
    rw[get (x:=x) (by simp[Op.operands]),hx]
    obtain⟨O,Q,_,_,_⟩:=C.at hl
    simp only[ren,Ja]
    exact⟨O.symm▸rfl,Q,.mk' h (by simp[ren])⟩
   grind
  ·rename_i cs off hx
   simp only[A2]
   rw[get (x:=x) (by simp[Op.operands]),hx]
   simp only[ren,Ja]
   exact .mk' h (by simp[ren])
  ·grind
 case convert s d x=>
  split at h
  ·rename_i i j hi V;simp only[A2];rw[get (x:=x) (by simp[Op.operands])];exact Zm5 (n _ _ hi) (n _ _ V) A h
  ·grind
 case makeFunc fn first B=>
  have m:first.toList.map w=Ao r (first.toList.map ρ):=eJ fun x hx=>get (by simp only[Op.operands,N7];exact .inl (by simpa using hx))
  have I:B.toList.map w=Ao r (B.toList.map ρ):=eJ fun x hx=>get (by simp only[Op.operands,N7];exact .inr (by simpa using hx))
  simp only[A2]
  rw[m,I]
  split at h
  ·grind
  ·rename_i L
   refine .mk' h ?_
   cases fn<;>first|exact absurd rfl (L _)|simp[ren]
 case slice t x lo hi mx=>
  split at h
  ·rename_i i J
   simp only[A2]
   rw[get (x:=x) (by simp[Op.operands]),Znp (o:=lo) (fun y hy=>get (by subst hy;simp[Op.operands])),Znp (o:=hi) (fun y hy=>get (by subst hy;simp[Op.operands]))]
   exact ZkJ (n _ _ J) C A h
  ·grind
 case build t parts=>
  split at h
  ·rename_i i hi E
   simp only[A2]
   have e:(parts.toList.map fun p=>(p.1,w p.2))=(parts.toList.map fun p=>(p.1,ρ p.2)).map fun p=>(p.1,ren r p.2):=by
    rw[IZ]
    refine Ep fun p M=>?_
    simp only[Function.comp]
    rw[get (x:=p.2) (by simp only[Op.operands,N8,YV];exact⟨p,M,rfl⟩)]
   rw[e]
   refine ZlI (n _ _ hi) (fun p M=>?_) (fun z Y=>K1 ((n _ _ hi).flt z Y)) h
   obtain⟨q,hq,rfl⟩:=YV.1 M
   grind
  ·grind
 case lookup t x y ck=>
  split at h
  ·rename_i i hi;simp only[A2];rw[get (x:=x) (by simp[Op.operands]),get (x:=y) (by simp[Op.operands])];exact Zmm (n _ _ hi) C A h
  ·grind
 case call c=>
  split at h
  ·rename_i x t l hx W
   split at h
   ·rename_i i hi
    have m:c.args=#[x]:=C9 (by simpa using hx)
    have I:c.argTypes=#[t]:=C9 (by simpa using W)
    simp only[A2,l,m,I]
    show 1=1∧DW P H' t (w x) (KR r K)
    rw[get (x:=x) (by simp[Op.operands,Call.operands,l,m])]
    exact⟨rfl,ZpY (n _ _ hi) C A h⟩
   grind
  ·rename_i x y l hx
   have m:c.args=#[x,y]:=C9 (by simpa using hx)
   simp only[A2,l,m]
   show Em false (w x) (w y) (KR r K)
   rw[get (x:=x) (by simp[Op.operands,Call.operands,l,m]),get (x:=y) (by simp[Op.operands,Call.operands,l,m])]
   exact zp h
  ·rename_i x y l hx
   have m:c.args=#[x,y]:=C9 (by simpa using hx)
   simp only[A2,l,m]
   show Em true (w x) (w y) (KR r K)
   rw[get (x:=x) (by simp[Op.operands,Call.operands,l,m]),get (x:=y) (by simp[Op.operands,Call.operands,l,m])]
   exact zp h
  ·rename_i x y z l hx
   have m:c.args=#[x,y,z]:=C9 (by simpa using hx)
   simp only[A2,l,m]
   show Ho true (w x) (w y) (w z) (KR r K)
   rw[get (x:=x) (by simp[Op.operands,Call.operands,l,m]),get (x:=y) (by simp[Op.operands,Call.operands,l,m]),get (x:=z) (by simp[Op.operands,Call.operands,l,m])]
   unfold Ho at h
   split at h
   ·rename_i R S U
    rw[R,S,U]
    simp only[ren,Ho];exact .mk' h rfl
   grind
  ·grind
end
abbrev CS:=List (Nat×Bool)
abbrev BP:=List (Nat×CS)
def lk:BP→Nat→CS
 |[],_=>[]
 |(i,c)::r,j=>match Nat.beq i j with|true=>c|false=>lk r j
def OB(t:Bool):Bool→Bool
 |true=>t
 |false=>!t
theorem ec{t b:Bool}:OB t b=true↔t=b:=by cases t<;>cases b<;>simp[OB]
def KD:CS→CS→Bool
 |[],[]=>true
 |(i,a)::r,(j,b)::q=>Nat.beq i j&&OB a b&&KD r q
 |_,_=>false
theorem eU:∀{a b:CS},KD a b=true→a=b
 |[],[],_=>rfl
 |(i,a)::r,(j,b)::q,h=>by
  simp only[KD,Yc]at h
  rw[Yd h.1.1,ec.1 h.1.2,eU h.2]
 |[],_::_,h=>by simp[KD]at h
 |_::_,[],h=>by simp[KD]at h
def Sf(a:CS):CS→Bool
 |[]=>KD a []
 |q::b=>KD a (q::b)||Sf a b
theorem Zog{a:CS}:∀{b:CS},Sf a b=true→∀q∈a,q∈b
 |[],h,q,c=>by rw[eU h]at c;exact c
 |p::b,h,q,c=>by
  simp only[Sf,YH]at h
  rcases h with h|h
  ·rw[eU h]at c;exact c
  ·exact Yw _ (Zog h q c)
def C6(s:Nat→AV)(c:CS):Prop:=∀q∈c,s q.1=.d (.bool q.2)
def Hb(s:Nat→AV):CS→Option Bool
 |[]=>some true
 |[(d,b)]=>match s d with|.d (.bool t)=>some (OB t b)|_=>none
 |(d,b)::r=>match s d,Hb s r with|.d (.bool t),some c=>some (c&&OB t b)|_,_=>none
theorem MC{s:Nat→AV}:∀{c:CS} {g:Bool},Hb s c=some g→(g=true↔C6 s c)
 |[],g,h=>by simp only[Hb,Yk]at h;subst h;simp[C6]
 |[(d,b)],g,h=>by
  simp only[Hb]at h
  split at h
  ·rename_i t f
   simp only[Yk]at h
   subst h
   rw[ec]
   simp[C6,f]
  ·cases h
 |(d,b)::q::r,g,h=>by
  simp only[Hb]at h
  split at h
  ·rename_i t c f i
   simp only[Yk]at h
   subst h
   have j:=MC i
   rw[Yc,j,ec]
   constructor
   ·rintro⟨e,rfl⟩ p a
    rcases Yx.1 a with rfl|a
    ·exact f
    ·exact e p a
   ·intro e
    refine⟨fun p a=>e p (Yw _ a),?_⟩
    have:=e (d,b) (Yz ..)
    grind
  ·cases h
def Nn(e:Nat)(c:CS):Bool:=c.all fun q=>!Nat.beq q.1 e
def fresh(e:Nat)(env:BP):Bool:=env.all fun p=>Nn e p.2
theorem zR{s:Nat→AV}{e:Nat}{v:AV}{c:CS}(h:Nn e c=true):C6 (upd s e v) c↔C6 s c:=by
 have key:∀q∈c,upd s e v q.1=s q.1:=fun q a=>by
  have:=Yu.1 h q a
  unfold upd
  rw[Ym]
  intro he
  subst he
  simp at this
 constructor
 ·exact fun h q a=>(key q a)▸h q a
 ·exact fun h q a=>(key q a).trans (h q a)
theorem Zoq{e:Nat}:∀{env:BP},fresh e env=true→∀j,Nn e (lk env j)=true
 |[],_,j=>rfl
 |(i,c)::r,h,j=>by
  simp only[fresh,IY,Yc]at h
  simp only[lk]
  split
  ·exact h.1
  ·exact Zoq h.2 j
theorem fh{env:BP}{e:Nat}{c:CS}(j:Nat):lk ((e,c)::env) j=if j=e then c else lk env j:=by
 simp only[lk]
 by_cases h:j=e
 ·subst h;simp
 ·rw[Ym h]
  split
  ·rename_i a;exact absurd (Yd a).symm h
  ·rfl
def IM(env:BP)(c:CS):Operand→Bool
 |.tmp t=>Sf (lk env t) c
 |_=>true
def Cf(env:BP)(c:CS):Op→Bool
 |.pick (.tmp d) x y=>IM env c (.tmp d)&&IM env ((d,true)::c) x&&IM env ((d,false)::c) y
 |op=>op.operands.toList.all (IM env c)
structure RenOk (r:Ren) (l outs:Nat):Prop where
 own:∀d,r.κ (1,d)=(l+1,d)
 out:∀i,i<outs→(r.κ (0,i)).1≤l
 inj:∀i j,i<outs→j<outs→r.κ (0,i)=r.κ (0,j)→i=j
 no:∀k,r.no k→∃i,i<outs∧r.κ (0,i)=k
structure RG (r:Ren) (l outs:Nat) (env:BP) (τ σ:St):Prop where
 s:∀j,(C6 τ.s (lk env j)→σ.s j=ren r (τ.s j))∧(¬C6 τ.s (lk env j)→σ.s j=.tup [])
 h:DK r τ.H σ.H
 g:∀d,(σ.H (l+1,d)).g=r.γ (1,d)+(τ.H (1,d)).g
 go:∀i,i<outs→(σ.H (r.κ (0,i))).g=r.γ (0,i)+(τ.H (0,i)).g
 k:∀k,(τ.H k).live=true→k.1=1∨(k.1=0∧k.2<outs)
 o:∀k:Ad,k.1≤l→¬r.no k→σ.H k=r.H0 k
def He(P:Program)(l:Nat)(r:Ren)(f:FuncId)(xs:List AV)(c:List (Ad×Blk))(x:AV):Prop:=
 ∀a,(∀p∈c,p.2.live=true→a (r.κ p.1)=AL r p.1 p.2)→(∀k:Ad,k.1≤l→¬r.no k→a k=r.H0 k)→Zc3 P f (l+1) (Ao r xs) a (fun y b=>y=ren r x∧b=a)
def M8(P:Program)(l:Nat)(r:Ren)(i:Nat)(xs:List AV)(d:List (Ad×Blk))(x:AV):Prop:=
 ∃f first a,r.θ i=.fn (.func f) first a∧∀b,(∀p∈d,p.2.live=true→b (r.κ p.1)=AL r p.1 p.2)→(∀k:Ad,k.1≤l→¬r.no k→b k=r.H0 k)→Zc3 P f (l+1) (first++Ao r xs++a) b (fun y c=>y=ren r x∧c=b)
def Vi(P:Program)(l:Nat)(r:Ren)(H:Hp)(f:AV)(xs:List AV)(g:Option Bool)(a:AT)(K:AV→AT→Prop):Prop:=
 match f,a with
 |.fn (.func i) first b,.call x ks a=>Bh g (He P l r i (first++xs++b) (ks.map fun k=>(k,H k)) x)∧K x a
 |.fn (.yield i) _ _,.call x ks a=>Bh g (M8 P l r i xs (ks.map fun k=>(k,H k)) x)∧K x a
 |_,_=>False
def WB(T:Nat→Option TI)(τ:St)(t:TypeId)(len:Nat)(parts:List (Nat×Operand))(a:AT)(K:AV→AT→Prop):Prop:=
 match T t with
 |some i=>(match i.elm with
  |some (e,sz)=>(match Nat.ble 1 sz,len with
   |true,0=>(match parts with|[]=>K .e0 a|_=>False)
   |true,len+1=>(match T e,Nat.ble ((len+1)*sz) 16777216 with
    |some j,true=>(match j.zer with
     |some z=>(match Nat.beq z.length sz,F8 sz 0 (parts.map fun p=>(p.1,ev τ.s p.2))with
      |true,some es=>(match Nat.beq es.length (len+1)with|true=>K (.d (.list es)) a|false=>False)
      |_,_=>False)
     |none=>False)
    |_,_=>False)
   |_,_=>False)
  |none=>False)
 |none=>False
def pV(P:Program)(T:Nat→Option TI)(l:Nat)(r:Ren)(τ:St)(op:Op)(g:Option Bool)(a:AT)(K:AV→AT→Prop):Prop:=
 match op with
 |.call c=>match c.callee with
  |.value f=>Vi P l r τ.H (ev τ.s f) (c.args.toList.map (ev τ.s)) g a K
  |_=>tV T τ.H op (ev τ.s) g a K
 |.buildSlice t len parts=>WB T τ t len parts.toList a K
 |op=>tV T τ.H op (ev τ.s) g a K
def Fh(n d:Nat)(K:St→AT→Prop)(τ:St)(v:AV)(a:AT):Prop:=
 match Nat.ble (d+1) n with
 |true=>K ⟨upd τ.s d v,τ.H⟩ a
 |false=>False
section
variable {P:Program} {T:Nat→Option TI} {r:Ren} {l n outs:Nat} {env:BP} {τ σ:St} {g:Option Bool} {a:AT} {c:CS}
theorem ZMQ(v:Value):ren r (cv v)=cv v:=by unfold cv;split<;>simp[ren]
theorem Lh(h:RG r l outs env τ σ)(hs:C6 τ.s c){x:Operand}(hx:IM env c x=true):ev σ.s x=ren r (ev τ.s x):=by
 cases x with
 |tmp t=>exact(h.s t).1 fun q a=>hs q (Zog hx q a)
 |const v=>exact(ZMQ v).symm
 |global g=>simp[ev,ren]
 |func f=>simp[ev,ren,Ao]
theorem G6(h:RG r l outs env τ σ)(hs:C6 τ.s c){op:Op}(hx:op.operands.toList.all (IM env c)=true):∀x∈op.operands,ev σ.s x=ren r (ev τ.s x):=
 fun x hm=>Lh h hs (Yu.1 hx x (by simpa using hm))
theorem mL(s:A8 P T)(h:RG r l outs env τ σ)(hs:C6 τ.s c)(u:∀b,g=some b→b=true){op:Op}(hx:Cf env c op=true){K:AV→AT→Prop}(i:tV T τ.H op (ev τ.s) g a K):
  A2 P σ.H op (ev σ.s) (KR r K):=by
 unfold Cf at hx
 split at hx
 ·rename_i d x y
  simp only[Yc]at hx
  obtain⟨⟨n,o⟩,p⟩:=hx
  have f:=i
  simp only[tV]at f
  split at f
  ·rename_i t k
   have m:=Lh h hs n
   refine y2 (T:=T) (H:=τ.H) (g:=g) (a:=a) k m (fun e=>Lh h (c:=(d,true)::c) ?_ o) (fun e=>Lh h (c:=(d,false)::c) ?_ p) i
   all_goals
    subst e
    intro q j
    rcases Yx.1 j with rfl|j
    ·exact k
    ·exact hs q j
  grind
 ·exact Zy0 s h.h u (G6 h hs hx) i
theorem dZ(h:RG r l outs env τ σ)(hs:C6 τ.s c)(s:∀b,g=some b→b=true){cl:Call}{f:Operand}(o:cl.callee=.value f)(hx:Cf env c (.call cl)=true){K:AV→AT→Prop}
  (e:Vi P l r τ.H (ev τ.s f) (cl.args.toList.map (ev τ.s)) g a K):
  ∃i first d x j,ev σ.s f=.fn (.func i) first d∧Zc3 P i (l+1) (first++cl.args.toList.map (ev σ.s)++d) σ.H (fun y t=>y=ren r x∧t=σ.H)∧K x j:=by
 have hx:(Op.call cl).operands.toList.all (IM env c)=true:=hx
 have q:=G6 h hs hx f (by simp[Op.operands,Call.operands,o])
 have m:cl.args.toList.map (ev σ.s)=Ao r (cl.args.toList.map (ev τ.s)):=eJ fun x hm=>G6 h hs hx x (by simp only[Op.operands,Call.operands,o,N7];exact .inr (by simpa using hm))
 have n:∀ks:List Ad,∀p∈ks.map fun k=>(k,τ.H k),p.2.live=true→σ.H (r.κ p.1)=AL r p.1 p.2:=fun ks p e hl=>by
  obtain⟨k,A,rfl⟩:=YV.1 e
  exact h.h k hl
 unfold Vi at e
 split at e
 ·rename_i i first d x ks j he
  have v:He _ _ _ _ _ _ _:=Bu s e.1
  refine⟨i,Ao r first,Ao r d,x,j,by rw[q,he];simp[ren],?_,e.2⟩
  rw[m,←G4,←G4]
  exact v σ.H (n ks) h.o
 ·rename_i i xs ys x ks j he
  obtain⟨u,first,d,w,z⟩:M8 _ _ _ _ _ _ _:=Bu s e.1
  refine⟨u,first,d,x,j,by rw[q,he];simp[ren,w],?_,e.2⟩
  rw[m]
  exact z σ.H (n ks) h.o
 grind
theorem RG.put(h:RG r l outs env τ σ){e:Nat}{ch:CS}(b:fresh e env=true)(c:Nn e ch=true){v:AV}{y:AV}(hy:C6 τ.s ch→y=ren r v)(d:¬C6 τ.s ch→y=.tup []):
  RG r l outs ((e,ch)::env) ⟨upd τ.s e v,τ.H⟩ ⟨upd σ.s e y,σ.H⟩:=by
 refine⟨fun j=>?_,h.h,h.g,h.go,h.k,h.o⟩
 simp only
 rw[fh]
 by_cases a:j=e
 ·subst a
  rw[Yi rfl,zR c]
  simp only[upd,Yt]
  grind
 ·rw[Ym a,zR (Zoq b j)]
  simp only[upd,Ym a]
  exact h.s j
end
section
variable {P:Program} {l n:Nat} {H:Hp} {m:Mu} {S:Nat→Prop} {w w':World} {s:Nat→AV} {a:Act}
theorem MEnt.push{q:Bool}{es:List (List D)}{ents:Array MapEntry}{a:Nat}{s:ByteArray}{ds:List D}{v:Value}(h:MEnt w S q es ents a)(g:VR w S q ds v):
  MEnt w S q (es++[.str s::ds]) (ents.push {key:=.string s,val:=v,born:=a }) (a+1):=by
 have b:∀(i:Nat) (y:MapEntry),(ents.push {key:=.string s,val:=v,born:=a })[i]?=some y→(i=ents.size∧y={key:=.string s,val:=v,born:=a })∨(i≠ents.size∧ents[i]?=some y):=fun i y hy=>by
  grind
 refine⟨by simp[h.n],fun i k y z hy j e=>?_,fun i y hy=>?_,fun i e y hi hy=>?_⟩
 ·rcases b i y hy with⟨rfl,rfl⟩|⟨a1,c⟩<;>rcases b k z j with⟨rfl,rfl⟩|⟨l,f⟩
  ·rfl
  ·have:=h.clk k z f;simp only at e;omega
  ·have:=h.clk i y c;simp only at e;omega
  ·exact h.born i k y z c f e
 ·rcases b i y hy with⟨rfl,rfl⟩|⟨a1,c⟩
  ·grind
  ·exact W2 (h.clk i y c)
 ·rcases b i y hy with⟨rfl,rfl⟩|⟨a1,c⟩
  ·rw[h.n,YD (Yf _),Nat.sub_self]at hi
   cases hi
   exact⟨s,ds,rfl,rfl,g⟩
  ·have d:i<es.length:=by rw[←h.n];exact Pd c
   rw[Ys d]at hi
   exact h.e i e y hi c
end
section
variable {P:Program} {l n:Nat} {B:Base} {H H':Hp} {m m':Mu} {S S':Nat→Prop} {w w':World} {s:Nat→AV} {a:Act} {K:St→Prop} {o:Oper}
theorem eX{k:Ad}{g:Nat}{v:Value}(h:RepA w S H m l (.mp k g) v)(b:g=(H k).g)(hl:(H k).live=true):k.1≤l∧v=.map (some (m k).b):=by
 cases h with
 |mpL _ c _=>exact⟨c,rfl⟩
 |mpD _ _ _ _ _ a _=>rw[a b]at hl;cases hl
end
end Go.Eng
