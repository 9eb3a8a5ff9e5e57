import Derived.Test.YtjbijbkdiijhaaaGreatZb03
import Derived.Test.YtjbijbkdiijhaaaGreatZb01
import Derived.Maps.RangeRun
import Derived.Test.YtjbijbkdiijhaaaGreatZb02
import Derived.Test.YtjbijbkdiijhaaaGreatZb00
namespace Go.Eng
open Go
set_option linter.all false
inductive Waits (ops:Array Oper):Nat→Nat→Prop
 |one {j i:Nat} {oj:Oper} {e:Edge} (hj:ops[j]?=some oj) (he:e∈oj.after) (hb:Region.binds .any e=true) (hi:e.on=i):Waits ops j i
 |more {j m i:Nat} {oj:Oper} {e:Edge} (hj:ops[j]?=some oj) (he:e∈oj.after) (hb:Region.binds .any e=true) (hm:e.on=m) (h:Waits ops m i):Waits ops j i
def QK(L:List Oper)(i:Nat):Nat→Nat→Bool
 |0,_=>false
 |a+1,j=>match Bt L j with|some b=>b.after.toList.any fun e=>Region.binds .any e&&(Nat.beq e.on i||QK L i a e.on)|none=>false
theorem ki{L:List Oper}{i:Nat}:∀(a j:Nat),QK L i a j=true→Waits L.toArray j i
 |0,j,h=>by cases h
 |a+1,j,h=>by
  unfold QK at h
  rw[Cs]at h
  split at h
  ·rename_i f d
   obtain⟨e,he,h⟩:=YL.1 h
   rw[Yb,YI]at h
   have c:L.toArray[j]?=some f:=by simpa using d
   rcases h.2 with b|b
   ·exact .one c (by simpa using he) h.1 (Yd b)
   ·exact .more c (by simpa using he) h.1 rfl (ki a _ b)
  ·cases h
def DC(ops:Array Oper)(a:Array Bool):Prop:=∀(m:Nat) (b:Oper),ops[m]?=some b→a.getD m false=true→∀e∈b.after,Region.binds .any e=true→a.getD e.on false=true
theorem DC.waits{ops:Array Oper}{a:Array Bool}(h:DC ops a){j i:Nat}(d:Waits ops j i):a.getD j false=true→a.getD i false=true:=by
 induction d with
 |one c he b hi=>intro hl;rw[←hi];exact h _ _ c hl _ he b
 |more c he b hm _ e=>intro hl;exact e (by rw[←hm];exact h _ _ c hl _ he b)
theorem ZKm{a:Array Bool}{i:Nat}(h:a.getD i true=false):a.getD i false=false:=by
 grind
theorem DC.ready{ops:Array Oper}{a:Array Bool}(h:DC ops a){j:Nat}(g:j∈Region.ready .any ops a):DC ops (a.setIfInBounds j true):=by
 obtain⟨k,l,d,b⟩:=mem_ready.1 g
 intro m i hm hl e he f
 by_cases c:j=m
 ·subst c
  rw[d]at hm
  cases hm
  exact getD_set_true (b e he f)
 ·rw[getD_set_ne false c]at hl
  exact getD_set_true (h m i hm hl e he f)
theorem DC.nowait{ops:Array Oper}{a:Array Bool}(h:DC ops a){j i:Nat}(k:j∈Region.ready .any ops a)(hi:a.getD i true=false):¬Waits ops j i:=fun l=>by
 obtain⟨m,n,d,c⟩:=mem_ready.1 k
 have hi:=ZKm hi
 cases l with
 |one b he f g=>
  grind
 |more b he f hm e=>
  rw[d]at b
  cases b
  have:=h.waits e (by rw[←hm];exact c _ he f)
  grind
def Ca(o:Oper):Bool:=match o.op,o.dst,o.guard with
 |.store _ _ _,none,none=>true
 |_,_,_=>false
def HG(o:Oper):Bool:=match o.op with
 |.move _=>true
 |.binOp b _ _ _ _=>(match b with|.add=>true|.sub=>true|_=>false)
 |.indexAddr _ _ _=>true
 |.fieldAddr _ _ _=>true
 |.nilCheck _=>true
 |_=>false
def iv(H H':Hp):Prop:=∀k,(H' k).g=(H k).g∧(H' k).live=(H k).live∧(H' k).sz=(H k).sz
def O0(L:List Oper)(p:Oper)(k:Nat):Bool:=Ch p k||p.after.toList.any fun e=>Region.binds .any e&&(match L[e.on]? with|some a=>Ch a k|none=>false)
def UI(L:List Oper)(o:Oper)(k:Nat):Nat→List Oper→Bool
 |_,[]=>true
 |j,p::r=>(match Ca o with|true=>Ch p k|false=>true)&&(match Ca p with|true=>HG o||O0 L p k|false=>true)&&!Ch o j&&UI L o k (j+1) r
def LX(L:List Oper):Nat→List Oper→Bool
 |_,[]=>true
 |k,o::r=>UI L o k (k+1) r&&LX L (k+1) r
theorem ZuW{L:List Oper}{o:Oper}{k:Nat}:∀{l:List Oper} {j i:Nat} {p:Oper},UI L o k j l=true→l[i]?=some p→(Ca o=true→Ch p k=true)∧(Ca p=true→HG o=true∨O0 L p k=true)∧Ch o (j+i)=false
 |[],j,i,p,_,h=>by simp at h
 |q::r,j,i,p,a,h=>by
  simp only[UI,Yb,YJ]at a
  cases i with
  |zero=>
   grind
  |succ i=>
   have:=ZuW a.2 (i:=i) (by simpa using h)
   grind
theorem oW{L:List Oper}:∀{l:List Oper} {k i j:Nat} {o p:Oper},LX L k l=true→i<j→l[i]?=some o→l[j]?=some p→(Ca o=true→Ch p (k+i)=true)∧(Ca p=true→HG o=true∨O0 L p (k+i)=true)∧Ch o (k+j)=false
 |[],k,i,j,o,p,_,_,h,_=>by simp at h
 |q::r,k,i,j,o,p,b,c,h,a=>by
  simp only[LX,Yb]at b
  cases j with
  |zero=>omega
  |succ j=>
   have a:r[j]?=some p:=by simpa using a
   cases i with
   |zero=>
    simp only[Gp,Yj]at h
    subst h
    have:=ZuW b.1 a
    grind
   |succ i=>
    have:=oW b.2 (Nat.lt_of_succ_lt_succ c) (by simpa using h) a
    grind
theorem la{p:Oper}{k:Nat}(h:Ch p k=true)(b:∀e∈p.after,Region.binds .any e=true→e.on≠k):False:=by
 unfold Ch at h
 rw[YL]at h
 obtain⟨e,he,a⟩:=h
 simp only[Yb]at a
 exact b e (by simpa using he) a.1 (Yd a.2)
section
variable {P:Program} {l n:Nat} {B:Base} {H H':Hp} {ops:Array Oper} {ρ:Operand→AV}
theorem ux{o:Oper}{v:AV}(h:HG o=true)(hs:iv H H')(a:qV P l H o ρ v):qV P l H' o ρ v:=by
 obtain⟨e,op,type,pos,after,guard⟩:=o
 cases op<;>simp only[HG]at h<;>first|(cases h;done)|skip
 case move=>exact a
 case nilCheck=>
  simp only[qV,Be]at a⊢
  unfold Jo at a⊢
  split at a
  ·rename_i k g off _
   obtain⟨b,c,d⟩:=hs k
   grind
  ·exact a
  ·grind
 case fieldAddr=>
  simp only[qV,Be]at a⊢
  unfold Fc at a⊢
  split at a
  ·exact a
  ·rename_i k g off o n _ _
   obtain⟨b,c,d⟩:=hs k
   grind
  ·grind
 case indexAddr=>
  simp only[qV,Be]at a⊢
  unfold EB at a⊢
  split at a
  ·exact a
  ·rename_i k g off len _ n _ sz _ _ _
   obtain⟨b,c,d⟩:=hs k
   grind
  ·grind
 case binOp=>
  simp only[qV,Be]at a⊢
  unfold CR at a⊢
  split at a
  ·exact a
  ·exact a
  ·grind
  ·exact a
  ·grind
  ·grind
theorem ZS9{o:Oper}{s:Nat→AV}{v:AV}(h:HG o=true)(hs:iv H H')(a:YA P l H ops o s v):YA P l H' ops o s v:=by
 unfold YA at a⊢
 split at a
 ·exact ux h hs a
 ·split at a
  ·exact⟨fun e=>ux h hs (a.1 e),a.2⟩
  grind
def G3(P:Program)(l:Nat)(o:Oper)(s:Nat→AV)(H H':Hp):Prop:=match o.op with
 |.store t a x=>match ev s a,C7 (ev s x)with
  |.ptr k g off,some vs=>g=(H k).g∧(H k).live=true∧vs.length=P.cellsOf t∧vs≠[]∧off+vs.length≤(H k).cells.length∧(k.1=l+1∨vs.all (AV.low k.1)=true)∧
    H'=updH H k {H k with cells:=(H k).cells.take off++vs++(H k).cells.drop (off+vs.length) }
  |_,_=>False
 |_=>False
theorem ZIm{o:Oper}{s:Nat→AV}(h:G3 P l o s H H'):iv H H':=by
 unfold G3 at h
 split at h
 ·split at h
  ·obtain⟨_,_,_,_,_,_,rfl⟩:=h
   intro k
   unfold updH
   grind
  grind
 grind
theorem ZPU{o:Oper}{s:Nat→AV}{K:St→Prop}(hs:Ca o=true)(h:BI P l n o K ⟨s,H⟩):∃H',G3 P l o s H H'∧K ⟨s,H'⟩:=by
 obtain⟨a,op,type,pos,after,guard⟩:=o
 cases op<;>simp only[Ca]at hs<;>first|(cases hs;done)|skip
 cases a with
 |some d=>cases hs
 |none=>
  simp only[BI]at h
  simp only[G3]
  grind
theorem ZL7{o:Oper}{s:Nat→AV}{K:St→Prop}(hs:Ca o=true)(h:G3 P l o s H H')(b:K ⟨s,H'⟩):BI P l n o K ⟨s,H⟩:=by
 obtain⟨a,op,type,pos,after,guard⟩:=o
 cases op<;>simp only[Ca]at hs<;>first|(cases hs;done)|skip
 cases a with
 |some d=>cases hs
 |none=>
  simp only[G3]at h
  simp only[BI]
  grind
theorem ZEM{o:Oper}{s:Nat→AV}{d:Nat}{u:AV}(g:d∉o.looksAt ops)(h:G3 P l o (upd s d u) H H'):G3 P l o s H H':=by
 have b:∀x∈o.op.operands,ev (upd s d u) x=ev s x:=fun x hx=>by
  cases x with
  |tmp t=>
   have c:t≠d:=fun e=>g (by
    subst e
    exact HM _ (List.mem_filterMap.2 ⟨.tmp t,by simpa using hx,rfl⟩))
   simp[ev,upd,c]
  |_=>rfl
 unfold G3 at h⊢
 split at h
 ·rename_i t a x f
  rw[b a (by rw[f];simp[Op.operands]),b x (by rw[f];simp[Op.operands])]at h
  exact h
 grind
variable {fin:Bool} {X:St→Prop}
def Fu(P:Program)(l n:Nat)(ops:Array Oper)(fin:Bool)(X:St→Prop)(i:Nat)(K:St→Prop)(σ:St):Prop:=
 match ops[i]? with
 |none=>K σ
 |some o=>(C9 o=true∧∃d v,o.dst=some d∧d<n∧YA P l σ.H ops o σ.s v∧K ⟨upd σ.s d v,σ.H⟩)∨(Ca o=true∧∃H',G3 P l o σ.s σ.H H'∧K ⟨σ.s,H'⟩)∨(fin=true∧i+1=ops.size∧X σ)
def KS(P:Program)(l n:Nat)(ops:Array Oper)(fin:Bool)(X:St→Prop)(Q:St→Prop):Nat→Array Bool→St→Prop
 |0,a,σ=>Region.ready .any ops a=[]∧Q σ
 |fuel+1,a,σ=>(Region.ready .any ops a=[]→Q σ)∧∀i∈Region.ready .any ops a,Fu P l n ops fin X i (KS P l n ops fin X Q fuel (a.setIfInBounds i true)) σ
theorem ZAM{i:Nat}{K g:St→Prop}{σ:St}(h:∀s,K s→g s)(b:Fu P l n ops fin X i K σ):Fu P l n ops fin X i g σ:=by
 unfold Fu at*
 split
 ·rename_i e;rw[e]at b;exact h _ b
 ·rename_i o e
  rw[e]at b
  rcases b with⟨a,d,v,c,f,j,k⟩|⟨a,H',c,f⟩|a
  ·exact .inl ⟨a,d,v,c,f,j,h _ k⟩
  ·exact .inr (.inl ⟨a,H',c,h _ f⟩)
  ·exact .inr (.inr a)
theorem ZFq{i j:Nat}{c t:Oper}{d:Nat}{v:AV}(A:ops[j]?=some t)(a:c.dst=some d)(m:c.apart ops t=true)(p:Ca t=true→HG c=true)(r:fin=true→j+1≠ops.size){K:St→Prop}{s:Nat→AV}
  (hy:YA P l H ops c s v) (h:Fu P l n ops fin X j K ⟨upd s d v,H⟩):Fu P l n ops fin X j (fun g=>YA P l g.H ops c g.s v∧K ⟨upd g.s d v,g.H⟩) ⟨s,H⟩:=by
 obtain⟨w,x,y⟩:=Oper.apart_spec m
 unfold Fu at*
 simp only[A]at*
 rcases h with⟨b,e,u,he,o,f,k⟩|⟨b,H',f,k⟩|⟨b,z,_⟩
 ·refine .inl ⟨b,e,u,he,o,tn (w d a) f,ZKq (y e he) hy,?_⟩
  have q:d≠e:=fun e'=>x d a (e'▸he)
  rw[Zzs (Ne.symm q)]
  exact k
 ·exact .inr (.inl ⟨b,H',ZEM (w d a) f,ZS9 (p b) (ZIm f) hy,k⟩)
 ·exact absurd z (r b)
theorem Zq5{Q:St→Prop}{i:Nat}{p:Oper}{d:Nat}{v:AV}(hi:ops[i]?=some p)(hq:C9 p=true)(E:p.dst=some d)(M:d<n):
  ∀(fuel:Nat) (a:Array Bool) (s:Nat→AV) (H:Hp),
   (∀j w,ops[j]?=some w→j≠i→a.getD j true=false→(∀e∈w.after,Region.binds .any e=true→e.on≠i∧∀b,ops[e.on]?=some b→Ch b i=false)→¬Waits ops j i→p.apart ops w=true∧(Ca w=true→HG p=true)∧(fin=true→j+1≠ops.size))→DC ops a→
   (∀m b,ops[m]?=some b→Ch b i=true→a.getD m true=false)→i∈Region.ready .any ops a→YA P l H ops p s v→
   KS P l n ops fin X Q fuel (a.setIfInBounds i true) ⟨upd s d v,H⟩→KS P l n ops fin X Q (fuel+1) a ⟨s,H⟩:=by
 have x:∀{K:St→Prop} {s:Nat→AV} {H:Hp},YA P l H ops p s v→K ⟨upd s d v,H⟩→Fu P l n ops fin X i K ⟨s,H⟩:=fun hy hK=>by
  unfold Fu;simp only[hi];exact .inl ⟨hq,d,v,E,M,hy,hK⟩
 intro fuel
 induction fuel with
 |zero=>
  intro a s H _ _ U u hy C
  refine⟨fun h=>(by rw[h]at u;cases u),fun j B=>?_⟩
  by_cases c:j=i
  ·subst c;exact x hy C
  ·have:=ready_mono B c
   rw[C.1]at this
   cases this
 |succ fuel ih=>
  intro a s H g Y U u hy C
  refine⟨fun h=>(by rw[h]at u;cases u),fun j B=>?_⟩
  by_cases c:j=i
  ·subst c;exact x hy C
  ·have f:=C.2 j (ready_mono B c)
   obtain⟨r,w,A,q⟩:=mem_ready.1 B
   have t:∀e∈w.after,Region.binds .any e=true→e.on≠i:=fun e he J heq=>by
    have f:=q e he J
    have D:=(mem_ready.1 u).1
    rw[heq]at f
    rcases YF i a.size with y|y
    ·simp[y]at D f;rw[D]at f;cases f
    ·simp[Gq y]at f
   have z:∀e∈w.after,Region.binds .any e=true→e.on≠i∧∀b,ops[e.on]?=some b→Ch b i=false:=fun e he J=>⟨t e he J,fun b T=>by
    cases L:Ch b i with
    |false=>rfl
    |true=>
     have f:=q e he J
     have D:=U _ b T L
     rcases YF e.on a.size with y|y
     ·simp[y]at D f;rw[D]at f;cases f
     ·simp[Gq y]at f⟩
   have N:=g j w A c r z (Y.nowait B (mem_ready.1 u).1)
   have h2:=ZFq (i:=i) A E N.1 N.2.1 N.2.2 hy f
   have o:∀k ok,ops[k]?=some ok→k≠i→(a.setIfInBounds j true).getD k true=false→
     (∀e∈ok.after,Region.binds .any e=true→e.on≠i∧∀b,ops[e.on]?=some b→Ch b i=false)→¬Waits ops k i→p.apart ops ok=true∧(Ca ok=true→HG p=true)∧(fin=true→k+1≠ops.size):=fun k ok hk O I R S=>by
    refine g k ok hk O ?_ R S
    by_cases F:j=k
    ·subst F;exact r
    ·rw[getD_set_ne true F]at I;exact I
   have V:∀m b,ops[m]?=some b→Ch b i=true→(a.setIfInBounds j true).getD m true=false:=fun m b hm L=>by
    by_cases G:j=m
    ·subst G
     rw[A]at hm
     cases hm
     exact(la L t).elim
    ·rw[getD_set_ne true G];exact U m b hm L
   refine ZAM (fun Z W=>ih (a.setIfInBounds j true) Z.s Z.H o (Y.ready B) V (ready_mono u (Ne.symm c)) W.1 ?_) h2
   rw[rp _ _ c]
   exact W.2
theorem ld{K K0:St→Prop}{m:Nat}(q:∀k (a:Array Bool) (s:Nat→AV) (H:Hp),k+m=ops.size→(∀j,a.getD j true=false→k≤j)→Region.lexFrom .any ops m k a=true→K0 ⟨s,H⟩→KS P l n ops fin X K m a ⟨s,H⟩)(x:fin=true→∀i,i+1<ops.size→Waits ops (ops.size-1) i)(A:∀i j N w,i<j→ops[i]?=some N→ops[j]?=some w→(Ca N=true→Ch w i=true)∧(Ca w=true→HG N=true∨O0 ops.toList w i=true)∧Ch N j=false):
  ∀(rest:List Oper) (k:Nat) (a:Array Bool) (s:Nat→AV) (H:Hp),rest.all (fun o=>C9 o||Ca o)=true→(∀j,a.getD j true=false→k≤j)→(∀j,k≤j→j<ops.size→a.getD j true=false)→
  k+rest.length+m=ops.size→DC ops a→(∀j,j<rest.length→rest[j]?=ops[k+j]?)→Region.lexFrom .any ops (rest.length+m) k a=true→D3 P l n (ops.toList.map (·.dst)) rest K0 ⟨s,H⟩→KS P l n ops fin X K (rest.length+m) a ⟨s,H⟩
 |[],k,a,s,H,_,F,_,u,_,_,hB,h=>by
  simp only[HP,YO,G6]at hB u⊢
  exact q k a s H u F hB h
 |o::rest,k,a,s,H,Z,F,hk2,u,hD,hl,hB,h=>by
  have M:ops[k]?=some o:=by simpa using(hl 0 (by simp)).symm
  rw[FC,Nat.add_right_comm]at hB⊢
  simp only[Region.lexFrom,Yb]at hB
  obtain⟨⟨D,hf⟩,Q⟩:=hB
  have D:k∈Region.ready .any ops a:=by simpa using D
  simp only[I1,Yb,YI]at Z
  have U:∀j,(a.setIfInBounds k true).getD j true=false→k+1≤j:=fun j E=>by
   by_cases p:k=j
   ·subst p
    exfalso
    rcases YF k a.size with L|L
    ·simp[L]at E
    grind
   ·rw[getD_set_ne true p]at E
    grind
  have G:∀j,k+1≤j→j<ops.size→(a.setIfInBounds k true).getD j true=false:=fun j h1 h2=>by
   rw[getD_set_ne true (by omega)]
   grind
  have hu:∀m om,ops[m]?=some om→Ch om k=true→a.getD m true=false:=fun m om hm ho=>by
   grind
  have W:∀j,j<rest.length→rest[j]?=ops[k+1+j]?:=fun j E=>by have:=hl (j+1) (by simp;omega);simpa[YK,OF 1 j]using this
  have next:∀s' H',D3 P l n (ops.toList.map (·.dst)) rest K0 ⟨s',H'⟩→KS P l n ops fin X K (rest.length+m) (a.setIfInBounds k true) ⟨s',H'⟩:=fun s' H' L=>
   ld q x A rest (k+1) _ s' H' (by simpa using Z.2) U G (by simp only[FC]at u;omega) (hD.ready D) W Q L
  by_cases f:Ca o=true
  ·
   have z:o.guard=none:=by
    cases z:o.guard with
    |none=>rfl
    |some _=>obtain⟨O,op,type,pos,after,guard⟩:=o;simp only at z;subst z;cases op<;>cases O<;>simp[Ca]at f
   have J:BI P l n o (D3 P l n (ops.toList.map (·.dst)) rest K0) ⟨s,H⟩:=by
    unfold D3 at h
    simp only[z]at h
    unfold Gb at h
    split at h
    ·rename_i R;simp[Ca,R]at f
    ·rename_i c R;simp[Ca,R]at f
    ·exact h
   obtain⟨H',hS,hK⟩:=ZPU f J
   refine⟨fun h=>(by rw[h]at D;cases D),fun j E=>?_⟩
   by_cases p:j=k
   ·subst p
    unfold Fu
    grind
   ·exfalso
    obtain⟨g,w,r,hall⟩:=mem_ready.1 E
    have V:=F j g
    have he:=(A k j o w (by omega) M r).1 f
    refine la he fun e he y heq=>?_
    grind
  ·have C:C9 o=true:=by rcases Z.1 with h|h;exact h;exact absurd h f
   have hst:∃d v,o.dst=some d∧d<n∧YA P l H ops o s v∧D3 P l n (ops.toList.map (·.dst)) rest K0 ⟨upd s d v,H⟩:=by
    unfold D3 at h
    unfold YA
    cases z:o.guard with
    |none=>simp only[z]at h;exact Zpq C h
    |some gw=>
     obtain⟨i,b⟩:=gw
     simp only[z]at h⊢
     split at h
     ·rename_i t ht
      cases t with
      |true=>
       obtain⟨d,v,h1,h2,h3,h4⟩:=Zpq C (h.1 rfl)
       grind
      |false=>
       grind
     grind
   obtain⟨d,v,hd,S,hy,hK⟩:=hst
   refine Zq5 M C hd S (rest.length+m) a s H (fun j w r p g I Y=>⟨Region.free_spec M hf j w r p g (fun e he y=>(I e he y).1),fun hsj=>?_,fun T B=>Y (by have:=x T k (by have:=F j g;omega);rwa [←B,Nat.add_sub_cancel]at this)⟩) hD hu D hy (next _ _ hK)
   have V:=F j g
   rcases(A k j o w (by omega) M r).2.1 hsj with h|h
   ·exact h
   ·exfalso
    unfold O0 at h
    rw[YI]at h
    rcases h with h|h
    ·exact la h fun e he y=>(I e he y).1
    ·obtain⟨e,he,y⟩:=YL.1 h
     rw[Yb]at y
     obtain⟨DA,Ay⟩:=y
     split at Ay
     ·grind
     grind
theorem Znr{i:Nat}{σ:St}{a:Act}{w:World}{K:St→Prop}{q:Act→World→Prop}{f:Exit→Act→World→Prop}(r:R l n B σ a w)
  (h:∀σ a w,R l n B σ a w→K σ→q a w) (L:fin=true→i+1=ops.size→X σ→wpOp P ops f i q a w) (A:Fu P l n ops fin X i K σ):wpOp P ops f i q a w:=by
 have z:=L
 obtain⟨s,H⟩:=σ
 unfold Fu at A
 unfold wpOp
 split
 ·grind
 ·rename_i o G
  simp only[G]at A
  rcases A with⟨C,d,v,F,g,hy,E⟩|⟨k,H',y,E⟩|⟨T,U,V⟩
  rotate_left 2
  ·have:=z T U V
   unfold wpOp at this
   simpa only[G]using this
  ·have go:qV P l H o (ev s) v→o.wp P a w q f:=fun Q=>by
    have:=ZMY (B:=B) C F g Q a w r f
    refine Oper.wp_mono (fun I w' ⟨D,e,x⟩=>?_) this
    grind
   unfold YA at hy
   cases c:o.guard with
   |none=>
    simp only[c]at hy
    rw[Ym (by simp[Region.wanted,c])]
    grind
   |some J=>
    obtain⟨j,b⟩:=J
    simp only[c]at hy
    split at hy
    ·rename_i t O
     have p:(yielded ops a.tmps j==some b)=t:=by
      obtain⟨m,S,W,Y,M,y,N⟩:=r.un
      exact z2 y O
     cases t with
     |true=>
      rw[Ym (by simp only[Region.wanted,c];exact p)]
      grind
     |false=>
      rw[Yk (by simp only[Region.wanted,c,p];decide)]
      have:=hy.2 rfl
      subst this
      rw[F]
      exact h _ _ _ (R.undef r g) E
    grind
  ·have c:o.guard=none:=by
    cases c:o.guard with
    |none=>rfl
    |some _=>obtain⟨u,op,type,pos,after,guard⟩:=o;simp only at c;subst c;cases op<;>cases u<;>simp[Ca]at k
   rw[Ym (by simp[Region.wanted,c])]
   refine .inl ?_
   have:=MW (B:=B) (ZL7 (n:=n) (K:=fun D=>D=⟨s,H'⟩) k y rfl) a w r f
   refine Oper.wp_mono (fun I w' ⟨D,e,x⟩=>?_) this
   grind
theorem zL{c:Exit→Act→World→Prop}{b:Array Bool}(h:Region.ready .any ops b=[]){a:Act}{w:World}(d:c .normal a w):∀fuel,wpAny P .any ops c fuel b a w
 |0=>⟨h,d⟩
 |_+1=>⟨fun _=>d,fun i hi=>by rw[h]at hi;cases hi⟩
theorem j8{Q:St→Prop}{p:Exit→Act→World→Prop}(r:∀σ a w,R l n B σ a w→Q σ→p .normal a w)(c:fin=true→∀i,i+1<ops.size→Waits ops (ops.size-1) i)(z:fin=true→∀σ a w,R l n B σ a w→X σ→∀o,ops[ops.size-1]?=some o→wpList P ops p [o] a w):
  ∀(fuel:Nat) (b:Array Bool) (σ:St) (a:Act) (w:World),DC ops b→R l n B σ a w→KS P l n ops fin X Q fuel b σ→wpAny P .any ops p fuel b a w
 |0,_,_,_,_,_,f,h=>⟨h.1,r _ _ _ f h.2⟩
 |fuel+1,b,σ,a,w,y,f,h=>⟨fun v=>r _ _ _ f (h.1 v),fun i hi=>Znr f (fun s' u w' s E=>j8 r c z fuel _ s' u w' (y.ready hi) s E) (fun D K I=>by
  obtain⟨v,o,C,A⟩:=mem_ready.1 hi
  have e:ops.size-1=i:=by omega
  have hw:=z D σ a w f I o (by rw[e];exact C)
  have k:Region.ready .any ops (b.setIfInBounds i true)=[]:=by
   refine List.eq_nil_iff_forall_not_mem.2 fun j F=>?_
   obtain⟨m,J,t,_⟩:=mem_ready.1 F
   have G:j<ops.size:=(G7.1 t).1
   by_cases g:i=j
   ·subst g
    rcases YF i b.size with q|q
    ·simp[q]at m
    ·simp[Gq q]at m
   ·rw[getD_set_ne true g]at m
    have x:=c D j (by omega)
    rw[e]at x
    exact y.nowait hi m x
  unfold wpOp
  simp only[C]
  unfold wpList at hw
  split
  ·rename_i d
   rw[Ym d]at hw
   exact hw.imp (Oper.wp_mono fun u w' H=>zL k H _) id
  ·rename_i d
   rw[Yk d]at hw
   exact zL k hw _) (h.2 i hi)⟩
theorem DC.none(n:Nat):DC ops (Array.replicate n false):=fun m b _ h=>by
 rw[Yz]at h
 rcases YF m n with a|a
 ·simp[a]at h
 ·simp[Nat.not_lt.2 a]at h
theorem Zqd{id:Nat}{ops:List Oper}{σ:St}{Q:Exit→St→Prop}(hm:P.follows .mixedOrders=true)(hB:Region.lexB .any ops.toArray=true)(C:ops.all (fun o=>C9 o||Ca o)=true)(hs:LX ops 0 ops=true)
  (h:D3 P l n (ops.map (·.dst)) ops (Q .normal) σ):BR P l n B (.region id ops.toArray true) Q σ:=by
 intro a w x
 obtain⟨s,H⟩:=σ
 simp only[Region.lexB,Yb]at hB
 have u:=ld (P:=P) (l:=l) (n:=n) (ops:=ops.toArray) (K:=Q .normal) (K0:=Q .normal) (m:=0) (fin:=false) (X:=fun _=>False) (fun k c s H _ _ hB h=>⟨by simpa[Region.lexFrom]using hB,h⟩) (fun e=>by cases e) (fun i j E F p hi z=>by
   have:=oW hs p (by simpa using hi) (by simpa using z)
   simpa using this) ops 0 (Array.replicate ops.toArray.size false) s H C (fun _ _=>CK _) (fun j _ h=>by simp at h;simp[h]) (by simp) (DC.none _) (by simp) (by simpa using hB.2) (by simpa using h)
 have d:R l n B ⟨s,H⟩ a {w with drawn:=w.drawn+1 }:=by
  obtain⟨m,S,v,A,f,y,g⟩:=x.un
  obtain⟨r,t⟩:=v.drew (w':={w with drawn:=w.drawn+1 }) rfl rfl rfl rfl
  exact R.keep r A f y g t
 refine wp_region_any hm (j8 (Q:=Q .normal) (fin:=false) (X:=fun _=>False) (fun G D w' b q=>⟨_,q,b⟩) (fun e=>by cases e) (fun e=>by cases e) _ _ _ a _ (DC.none _) d (by simpa using u))
theorem Zsv{id:Nat}{L:List Oper}{o:Oper}{σ:St}{QQ:Exit→Act→World→Prop}{X:St→Prop}(hm:P.follows .mixedOrders=true)(hB:Region.lexB .any (L++[o]).toArray=true)(J:L.all (fun o=>C9 o||Ca o)=true)(hs:LX (L++[o]) 0 (L++[o])=true)
  (M:∀i,i<L.length→Waits (L++[o]).toArray L.length i) (h:D3 P l n ((L++[o]).map (·.dst)) L X σ) (G:∀σ a w,R l n B σ a w→X σ→wpList P (L++[o]).toArray QQ [o] a w) {a:Act} {w:World} (g:R l n B σ a w):(Code.region id (L++[o]).toArray true).wp P QQ a w:=by
 obtain⟨s,H⟩:=σ
 simp only[Region.lexB,Yb]at hB
 have c:true=true→∀i,i+1<(L++[o]).toArray.size→Waits (L++[o]).toArray ((L++[o]).toArray.size-1) i:=fun _ i hi=>by
  have:=M i (by simpa using hi)
  simpa using this
 have D:=ld (P:=P) (l:=l) (n:=n) (ops:=(L++[o]).toArray) (K:=fun _=>False) (K0:=X) (m:=1) (fin:=true) (X:=X) (fun k b s H U hl hB h=>by
   simp only[Region.lexFrom,Yb]at hB
   have C:k∈Region.ready .any (L++[o]).toArray b:=by simpa using hB.1.1
   refine⟨fun f=>(by rw[f]at C;cases C),fun i hi=>?_⟩
   obtain⟨f,O,d,_⟩:=mem_ready.1 hi
   have y:=hl i f
   have z:i<(L++[o]).toArray.size:=(G7.1 d).1
   unfold Fu
   simp only[d]
   refine .inr (.inr ?_)
   exact And.intro (by first|rfl|trivial) (And.intro (by omega) h)) c (fun i j O V t hi u=>by
   have:=oW hs t (by simpa using hi) (by simpa using u)
   simpa using this) L 0 (Array.replicate (L++[o]).toArray.size false) s H J (fun _ _=>CK _) (fun j _ h=>by simp at h;simp[h]) (by simp) (DC.none _) (fun j u=>by simp[Yp u]) (by simpa using hB.2) (by simpa using h)
 have p:R l n B ⟨s,H⟩ a {w with drawn:=w.drawn+1 }:=by
  obtain⟨m,S,E,I,q,F,r⟩:=g.un
  obtain⟨y,z⟩:=E.drew (w':={w with drawn:=w.drawn+1 }) rfl rfl rfl rfl
  exact R.keep y I q F r z
 refine wp_region_any hm (j8 (Q:=fun _=>False) (fin:=true) (X:=X) (fun W T w' A x=>x.elim) c (fun _ σ a w g hx N v=>?_) _ _ _ a _ (DC.none _) p (by simpa using D))
 have e:N=o:=by simpa using v.symm
 subst e
 exact G σ a w g hx
end
end Go.Eng
namespace Go.Eng
set_option linter.all false
open Go Go.RowKit
section
variable {P:Program} {T:Nat→Option TI} {r:Ren} {H H':Hp} {g:Option Bool} {a:AT} {K:AV→AT→Prop}
def KR(r:Ren)(K:AV→AT→Prop)(y:AV):Prop:=∃v a,y=ren r v∧K v a
theorem KR.mk{v:AV}{a:AT}(h:K v a):KR r K (ren r v):=⟨v,a,rfl,h⟩
theorem KR.mk'{v y:AV}{a:AT}(h:K v a)(e:y=ren r v):KR r K y:=⟨v,a,e,h⟩
theorem ts{t:TypeId}{i:TI}(hi:TIok P t i)(h:(i.str||i.elm.isSome)=true):J7 P t=true:=by
 rw[YI]at h
 unfold J7
 rcases h with h|h
 ·have:=hi.str h
  unfold Mx at this
  split at this
  ·rename_i a _;rw[a]
  ·cases this
 ·obtain⟨e,he⟩:=YP.1 h
  obtain⟨b,c⟩:=e
  have:=(Fe (hi.elm _ he)).1
  rw[this]
theorem kh{t:TypeId}{i:TI}(hi:TIok P t i)(y:DJ r H H')(p:∀b,g=some b→b=true){x:AV}(h:NN i H x g a K):EN P H' t (ren r x) (KR r K):=by
 unfold NN at h
 cases x<;>simp only at h<;>try exact h.elim
 case iptr cs off=>
  simp only[ren,EN,hi.agg,hi.siz]
  split at h
  ·rename_i he
   rw[he]
   split at h
   ·rename_i c d f
    obtain⟨m,n⟩:=lg _ _ _ f
    have d:=Yh d
    rw[Dv]at n
    exact⟨by omega,by omega,.mk' h (by rw[m,ren,Ic])⟩
   grind
  ·rename_i he
   rw[he]
   rw[Cs]at h
   simp only
   split at h
   ·rename_i c o;simp only[o];exact .mk' h rfl
   grind
 case ptr k q off=>
  simp only[ren,EN,hi.agg,hi.siz]
  split at h
  ·rename_i hl
   obtain⟨s,u,z,A,v⟩:=y.at hl
   refine⟨s,u,?_⟩
   rw[v]
   split at h
   ·split at h
    ·rename_i he
     rw[he]
     split at h
     ·rename_i c d f
      obtain⟨m,n⟩:=lg _ _ _ f
      have d:=Yh d
      rw[Dv]at n
      exact⟨by omega,by rw[CL];omega,.mk' h (by rw[ren,Ff,FK,m])⟩
     grind
    ·rename_i he
     rw[he]
     rw[Cs]at h
     split at h
     ·rename_i c o;simp only[H8,o,YZ];exact .mk' h rfl
     grind
   ·split at h
    ·rename_i he
     rw[he]
     split at h
     ·rename_i c B d f
      have d:=Yh d
      have f:=Yd f
      have j:DW _ _ _:=BD p h.1
      unfold DW at j
      rw[f]at j
      have w:=congrArg List.length j
      rw[YD,Dv]at w
      exact⟨by omega,by rw[CL];omega,.mk' h.2 (by rw[ren,Ff,FK,j])⟩
     grind
    ·rename_i he
     rw[he]
     split at h
     ·rename_i x
      have j:DW _ _ _:=BD p h.1
      unfold DW at j
      have e:(H k).cells[off]?=some x:=by
       have:=congrArg (fun l=>l[0]?) j
       grind
      simp only[H8,e,YZ]
      exact .mk' h.2 rfl
     grind
   grind
  ·grind
theorem Nl{t:TypeId}{i:TI}(hi:TIok P t i){f:Nat}{x:Nat×Nat×Bool}(h:Bt i.fld f=some x):fld P t f=some (x.1,x.2.1)∧Mm P t f=some x:=by
 rw[Cs]at h;exact hi.fld f x h
theorem Zhh{t:TypeId}{i:TI}(hi:TIok P t i)(j:DJ r H H'){f:Nat}{x:AV}(h:VL i H f x a K):Fc P H' t f (ren r x) (KR r K):=by
 unfold VL at h
 split at h
 ·rename_i o n b k
  have e:=(Nl hi k).1
  split at h
  ·rename_i c
   have c:=Yh c
   unfold Fc
   rw[e]
   split at h
   ·simp only[ren];exact⟨by omega,.mk' h rfl⟩
   ·split at h
    ·rename_i hl
     obtain⟨d,g,_⟩:=j.at hl
     simp only[ren];exact⟨by omega,d,g,.mk' h rfl⟩
    grind
   grind
  grind
 grind
theorem ZmP{t:TypeId}{i:TI}(hi:TIok P t i){f:Nat}{x:AV}(h:W9 i f x a K):Fg P t f (ren r x) (KR r K):=by
 unfold W9 at h
 rw[Zxl]
 split at h
 ·rename_i o n cs b
  rw[(Nl hi b).2]
  split at h
  ·rename_i d
   have d:=Yh d
   simp only[ren,O1]
   exact⟨by omega,.mk' h (by rw[ren,Ff,FK])⟩
  grind
 ·rename_i o n cs b
  rw[(Nl hi b).2]
  rw[Cs]at h
  split at h
  ·rename_i c e
   simp only[ren,O1,H8,e,YZ]
   exact .mk' h rfl
  grind
 grind
theorem Zhi{t:TypeId}{i:TI}(hi:TIok P t i)(w:DJ r H H')(m:∀b,g=some b→b=true){x j:AV}(h:VJ i H x j g a K):EB P H' t (ren r x) (ren r j) (KR r K):=by
 unfold VJ at h
 split at h
 ·rename_i e sz k n he
  have he:=hi.elm _ he
  split at h
  ·rename_i y e' q
   split at h
   ·rename_i c d
    have c:=Yd c
    have d:=Yh d
    obtain⟨f,l⟩:Jh _ _ _:=BD m h.1
    simp only[ren,EB,he]
    refine⟨f,?_⟩
    rw[l]
    exact⟨c,by omega,.mk' h.2 rfl⟩
   grind
  ·rename_i k q off len o B
   split at h
   ·rename_i hl c d
    have c:=Yd c
    have d:=Yh d
    obtain⟨p,s,z,u,A⟩:=w.at hl
    obtain⟨f,l,v⟩:ME _ _ _ _ _:=BD m h.1
    simp only[ren,EB,he]
    exact⟨f,l,p,s,by rw[u,c],by omega,.mk' h.2 (by rw[ren,v])⟩
   grind
  grind
 grind
theorem Zl3{t:TypeId}{i:TI}(hi:TIok P t i)(m:∀b,g=some b→b=true){x j:AV}(h:Xl i x j g a K):FU P t (ren r x) (ren r j) (KR r K):=by
 unfold Xl at h
 split at h
 ·rename_i s k n b q
  split at h
  ·rename_i d
   have d:=Yd d
   obtain⟨e,c,f,l⟩:Jl _ _ _:=BD m h.1
   simp only[ren,FU]
   refine⟨by rw[hi.kin];exact d,e,?_⟩
   rw[f]
   exact .mk' h.2 (by rw[ren,l])
  grind
 grind
theorem Zql{op:BinOp}{k:IntKind}{x y:Int}(c:∀b,g=some b→b=true)(h:U9 op k x y g a K):GR op k x y (KR r K):=by
 unfold U9 at h
 cases op<;>simp only at h<;>try exact h.elim
 all_goals simp only[GR]
 case eql=>exact .mk' h rfl
 case neq=>exact .mk' h rfl
 case lss=>exact .mk' h rfl
 case leq=>exact .mk' h rfl
 case gtr=>exact .mk' h rfl
 case geq=>exact .mk' h rfl
 case add|sub|mul=>
  split at h
  ·have e:Cz _ _ _:=BD c h.1
   unfold Cz at e
   rw[e];exact .mk' h.2 rfl
  ·grind
 case and|or|xor=>
  split at h
  ·have e:BN _ _:=BD c h.1
   unfold BN at e
   rw[e];exact .mk' h.2 rfl
  ·grind
 case quo=>
  split at h
  ·have e:Cz _ _ _:=BD c h.2.1
   unfold Cz at e
   rw[e];exact⟨BD c h.1,.mk' h.2.2 rfl⟩
  ·grind
 case rem=>
  split at h
  ·have e:BN _ _:=BD c h.2.1
   unfold BN at e
   rw[e];exact⟨BD c h.1,.mk' h.2.2 rfl⟩
  ·grind
 case shr=>
  split at h
  ·have e:BN _ _:=BD c h.2.1
   unfold BN at e
   rw[e];exact⟨BD c h.1,.mk' h.2.2 rfl⟩
  ·grind
 case shl=>
  split at h
  ·have e:Cz _ _ _:=BD c h.2.1
   unfold Cz at e
   rw[e];exact⟨BD c h.1,.mk' h.2.2 rfl⟩
  ·grind
theorem Zrk{op:BinOp}{x y:ByteArray}(c:∀b,g=some b→b=true)(h:UL op x y g a K):GU op x y (KR r K):=by
 unfold UL at h
 cases op<;>simp only at h<;>try exact h.elim
 all_goals simp only[GU]
 case add=>exact⟨BD c h.1,.mk' h.2 rfl⟩
 all_goals exact .mk' h rfl
theorem zS{neg:Bool}{x:AV}(i:DJ r H H')(h:MA H neg x a K):DX H' neg (ren r x) (KR r K):=by
 unfold MA at h
 split at h
 ·simp only[ren,DX];exact fun b=>.mk' (h b) rfl
 ·rename_i c
  cases c with
  |nil=>simp only[ren,DX];exact fun b=>.mk' (h b (fun e=>absurd rfl e)) rfl
  |cons e c=>simp only[ren,DX];exact .mk' (h neg (fun _=>rfl)) rfl
 ·rename_i k q off n
  split at h
  ·rename_i hl
   obtain⟨f,g,_⟩:=i.at hl
   simp only[ren,DX]
   exact⟨⟨f,g⟩,fun d=>.mk' (h neg (fun _=>rfl)) rfl,fun d b=>.mk' (h b (fun e=>absurd d e)) rfl⟩
  grind
 grind
theorem Zly:∀(ks:List Nat) (xs ys:List AV) (b:Bool),EM ks xs ys=some b→EM ks (As r xs) (As r ys)=some b
 |[],[],[],b,h=>by simpa[As]using h
 |k::ks,x::xs,y::ys,b,h=>by
  cases x<;>cases y<;>simp only[EM]at h<;>try (cases h;done)
  rename_i x y
  simp only[As,ren,EM]
  split at h
  ·rename_i d e a c
   simp only[a,Zly ks xs ys _ c]
   exact h
  ·cases h
 |[],[],_::_,b,h=>by simp[EM]at h
 |[],_::_,_,b,h=>by simp[EM]at h
 |_::_,[],_,b,h=>by simp[EM]at h
 |_::_,x::_,[],b,h=>by cases x<;>simp[EM]at h
theorem ZEX{H:Hp}{op:BinOp}{t:TypeId}{a:Bool}{x:AV}{K:AV→Prop}:CR P H op t a x .e0 K=(a=true∧kin P t=4∧match op with|.eql=>DX H false x K|.neq=>DX H true x K|_=>False):=by
 unfold CR
 grind
theorem Zqo{t:TypeId}{i:TI}(hi:TIok P t i)(e:DJ r H H')(f:∀b,g=some b→b=true){op:BinOp}{j:Bool}{x y:AV}(h:Uy i H op j x y g a K):CR P H' op t j (ren r x) (ren r y) (KR r K):=by
 unfold Uy at h
 split at h
 ·split at h
  ·rename_i c
   simp only[ren,CR]
   exact⟨ZOo c,Zql f h⟩
  grind
 ·simp only[ren,CR];exact Zrk f h
 ·split at h
  ·rename_i c
   simp only[ren,CR]
   refine⟨by rw[hi.kin];exact Yd c,?_⟩
   split at h
   ·exact .mk' h rfl
   ·exact .mk' h rfl
   grind
  grind
 ·rename_i xs ys
  split at h
  ·rename_i ks d
   split at h
   ·rename_i b l
    simp only[ren,CR,HA,hi.eqt _ d,Zly _ _ _ _ l]
    split at h
    ·exact .mk' h rfl
    ·exact .mk' h rfl
    grind
   grind
  grind
 ·rw[show ren r .e0=.e0 from by simp[ren],ZEX]
  split at h
  ·rename_i m k
   refine⟨rfl,by rw[hi.kin];exact Yd k,?_⟩
   split at h
   ·exact zS e h
   ·exact zS e h
   grind
  grind
 grind
theorem ZtF{op:UnOp}{x:AV}(c:∀b,g=some b→b=true)(h:ZO op x g a K):EV op (ren r x) (KR r K):=by
 unfold ZO at h
 split at h
 ·simp only[ren,EV];exact .mk' h rfl
 ·split at h
  ·have e:Cz _ _ _:=BD c h.1
   unfold Cz at e
   simp only[ren,EV]
   rw[e];exact .mk' h.2 rfl
  grind
 ·split at h
  ·have e:BN _ _:=BD c h.1
   unfold BN at e
   simp only[ren,EV]
   rw[e];exact .mk' h.2 rfl
  grind
 grind
theorem Znn{s d:TypeId}{i j:TI}(hi:TIok P s i)(k:TIok P d j){x:AV}(l:∀b,g=some b→b=true)(h:T8 i j x g a K):Fh P s d (ren r x) (KR r K):=by
 unfold T8 at h
 split at h
 ·split at h
  ·rename_i q n p k' o m t c f
   have e:Cz _ _ _:=BD l h.1
   unfold Cz at e
   simp only[ren,Fh,hi.ik _ c,k.ik _ f]
   rw[e];exact .mk' h.2 rfl
  grind
 ·split at h
  ·rename_i c f
   simp only[ren,Fh,JG (by rw[hi.kin];exact Yd c),JG (by rw[k.kin];exact Yd f)]
   exact .mk' h rfl
  grind
 grind
theorem Nb{d l:Nat}{o a:Option AV}(h:D8 d o l)(b:a=o.map (ren r)):Es d a=some l:=by
 subst b
 unfold D8 at h
 split at h
 ·simp[Es,h]
 ·subst h
  simp[Es,ren]
 grind
theorem ZlP{t:TypeId}{i:TI}(hi:TIok P t i)(B:DJ r H H')(c:∀b,g=some b→b=true){x:AV}{lo q:Option AV}{v:Bool}(h:Xt i H x lo q v g a K):
  EG P H' t (ren r x) (lo.map (ren r)) (q.map (ren r)) v (KR r K):=by
 unfold Xt at h
 split at h
 ·split at h
  ·split at h
   ·rename_i C
    obtain⟨m,n,o,p⟩:=h
    have f:=Nb (r:=r) (BD c m) rfl
    have j:=Nb (r:=r) (BD c n) rfl
    have d:Gl _ _ _:=BD c o
    simp only[ren,EG,f,j]
    exact⟨by rw[hi.kin];exact Yd C,trivial,d.1,d.2,.mk' p rfl⟩
   grind
  ·split at h
   ·rename_i e sz w D he
    split at h
    ·rename_i l
     have l:=Yh l
     obtain⟨m,n,o,p,u⟩:=h
     have f:=Nb (r:=r) (BD c m) rfl
     have j:=Nb (r:=r) (BD c n) rfl
     have d:Gl _ _ _:=BD c o
     have k:SX _ _ _ _ _:=BD c p
     simp only[ren,EG,f,j,hi.elm _ he]
     exact⟨trivial,by omega,k.1,d.1,d.2,.mk' u (by rw[ren,k.2])⟩
    grind
   grind
  ·split at h
   ·rename_i e sz I G D he hl
    split at h
    ·rename_i l s
     have l:=Yh l
     obtain⟨y,z,E,A,F⟩:=B.at hl
     obtain⟨m,n,o,p,u⟩:=h
     have f:=Nb (r:=r) (BD c m) rfl
     have j:=Nb (r:=r) (BD c n) rfl
     have d:Gl _ _ _:=BD c o
     have k:ac _ _ _ _ _:=BD c p
     simp only[ren,EG,f,j,hi.elm _ he]
     exact⟨trivial,y,z,by omega,by rw[A];exact Yd s,d.1,d.2,.mk' u (by rw[ren,k.1,k.2])⟩
    grind
   grind
  grind
 grind
theorem Zqe{t:TypeId}{i:TI}(hi:TIok P t i)(k:DJ r H H')(d:∀b,g=some b→b=true){x:AV}(h:Uj i H x g a K):D0 P H' t (ren r x) (KR r K):=by
 unfold Uj at h
 split at h
 ·split at h
  ·rename_i c
   have e:BN _ _:=BD d h.1
   unfold BN at e
   simp only[ren,D0,hi.kin]
   exact⟨Yd c,.mk' h.2 (by rw[ren,e])⟩
  grind
 ·split at h
  ·rename_i c
   have e:BN _ _:=BD d h.1
   unfold BN at e
   simp only[ren,D0,hi.kin]
   exact⟨Yd c,.mk' h.2 (by rw[ren,e])⟩
  grind
 ·split at h
  ·rename_i c
   have e:BN _ _:=BD d h.1
   unfold BN at e
   simp only[ren,D0,hi.kin]
   exact⟨Yd c,.mk' h.2 (by rw[ren,e])⟩
  grind
 ·split at h
  ·rename_i c hl
   have e:BN _ _:=BD d h.1
   unfold BN at e
   obtain⟨f,j,_⟩:=k.at hl
   simp only[ren,D0,hi.kin]
   exact⟨Yd c,f,j,.mk' h.2 (by rw[ren,e])⟩
  grind
 grind
theorem ZqV(a:DJ r H H'){x:AV}{y:Bool×List (List D)}(h:m0 H x=some y):Nr H' (ren r x)=some y:=by
 unfold m0 at h
 split at h
 ·simp only[ren,Nr];exact h
 ·split at h
  ·rename_i k g _ _ q b hl he
   obtain⟨c,d,e,_,_⟩:=a.at hl
   simp only[ren,Nr]
   grind
  ·cases h
 ·cases h
theorem Zwg(q:Bool)(ds:List D):ren r (Ob q ds)=Ob q ds:=by
 unfold Ob
 split<;>simp[ren,Ic]
theorem ZED(a q:Bool)(ds:List D)(ok:Bool):ren r (N9 a q ds ok)=N9 a q ds ok:=by
 unfold N9
 cases a
 ·exact Zwg q ds
 ·simp only[ren,As,Zwg]
theorem Znc{t:TypeId}{i:TI}(hi:TIok P t i)(k:DJ r H H')(l:∀b,g=some b→b=true){x y:AV}{c:Bool}(h:XB i H x y c g a K):GL P H' t (ren r x) (ren r y) c (KR r K):=by
 unfold XB at h
 split at h
 ·rename_i q z p o s ok vs n f j
  split at h
  ·rename_i m
   obtain⟨d,e⟩:Rz _ _ _ _ _:=BD l h.1
   simp only[GL,hi.mp _ f,ZqV k j,ren]
   exact⟨ZNR m,.mk' h.2 (by rw[d,e,ZED])⟩
  grind
 grind
theorem PH{x:AV}{vs:List AV}(h:C7 x=some vs)(hx:∀f xs ys,x≠.fn (.yield f) xs ys):C7 (ren r x)=some (As r vs):=by
 cases x<;>simp only[C7,Yj]at h<;>try (cases h;done)
 case fn f xs ys=>
  subst h
  cases f with
  |yield i=>exact absurd rfl (hx i xs ys)
  |_=>simp[ren,As,C7]
 all_goals(subst h;simp[ren,As,C7])
theorem P3{x:AV}(h:Jq x=true):∀f xs ys,x≠.fn (.yield f) xs ys:=by
 rintro f xs ys rfl;cases h
theorem ZLN{t:TypeId}{i:TI}(hi:TIok P t i){f o n:Nat}(h:qp i f=some (o,n)):fld P t f=some (o,n):=by
 unfold qp at h
 split at h
 ·rename_i d c b a
  simp only[Yj,G5]at h
  obtain⟨rfl,rfl⟩:=h
  exact(Nl hi a).1
 ·cases h
theorem zn{t:TypeId}{i:TI}(hi:TIok P t i):∀(ps:List (Nat×AV)) (z cs:List AV),(∀p∈ps,Jq p.2=true)→RA i z ps=some cs→CE (fld P t) (As r z) (ps.map fun p=>(p.1,ren r p.2))=some (As r cs)
 |[],z,cs,_,h=>by
  simp only[RA,Yj]at h
  subst h
  simp[CE]
 |(f,v)::ps,z,cs,e,h=>by
  simp only[RA]at h
  split at h
  ·rename_i off size vs a g
   split at h
   ·rename_i c d
    have c:=Yd c
    have d:=Yh d
    have b:=PH (r:=r) g (P3 (e (f,v) (YB ..)))
    simp only[YY,CE,ZLN hi a,b,CL]
    rw[Yk (by omega)]
    have:=zn hi ps _ cs (fun p a=>e p (YC _ a)) h
    rw[←this]
    simp only[Hd,FK,Ff]
   ·cases h
  ·cases h
theorem Zme{t:TypeId}{i:TI}(hi:TIok P t i){parts:List (Nat×AV)}(e:∀p∈parts,Jq p.2=true)(f:∀z,i.zer=some z→As r z=z)(h:WW i parts a K):
  FR P t (parts.map fun p=>(p.1,ren r p.2)) (KR r K):=by
 unfold WW at h
 split at h
 ·rename_i z c b
  split at h
  ·rename_i cs d
   have:=zn (r:=r) hi _ _ _ e d
   unfold FR
   rw[hi.zer _ b]
   rw[f z b]at this
   simp only[this]
   exact⟨hi.str c,.mk' h rfl⟩
  grind
 grind
theorem ZxX{x:AV}(h:x.flat=true):ren r x=x:=by cases x<;>first|(simp[ren];done)|cases h
theorem KZ{z:List AV}(h:z.all AV.flat=true):As r z=z:=by
 induction z with
 |nil=>simp[As]
 |cons x z a=>
  simp only[I1,Yb]at h
  rw[As,ZxX h.1,a h.2]
theorem zt{c x y:Operand}{ρ d:Operand→AV}{t:Bool}(e:ρ c=.d (.bool t))(b:d c=ren r (ρ c))(hx:t=true→d x=ren r (ρ x))(hy:t=false→d y=ren r (ρ y))(h:tV T H (.pick c x y) ρ g a K):
  Be P H' (.pick c x y) d (KR r K):=by
 simp only[tV,e]at h
 rw[e]at b
 simp only[ren]at b
 simp only[Be,b]
 rw[ZBM]at h
 cases t
 ·exact .mk' h (by simp[hy rfl])
 ·exact .mk' h (by simp[hx rfl])
theorem lZ{ρ a:Operand→AV}{xs:List Operand}(h:∀x∈xs,a x=ren r (ρ x)):xs.map a=As r (xs.map ρ):=by
 rw[FO,I2]
 exact Eb h
theorem Zo3{ρ a:Operand→AV}{o:Option Operand}(h:∀x,o=some x→a x=ren r (ρ x)):o.map a=(o.map ρ).map (ren r):=by
 cases o with
 |none=>rfl
 |some x=>simp[h x rfl]
theorem zW{r:Ren}{b:Bool}{x y:AV}{a:AT}{K:AV→AT→Prop}(h:Ey b x y (fun v=>K v a)):Ey b (ren r x) (ren r y) (KR r K):=by
 unfold Ey at h
 split at h
 ·simp only[ren,Ey];exact .mk' h rfl
 grind
theorem Zx3(n:Bl P T)(C:DJ r H H')(A:∀b,g=some b→b=true){op:Op}{ρ w:Operand→AV}(Z:∀x∈op.operands,w x=ren r (ρ x))(h:tV T H op ρ g a K):Be P H' op w (KR r K):=by
 have get:∀{x:Operand},x∈op.operands→w x=ren r (ρ x):=fun hx=>Z _ hx
 cases op<;>simp only[tV]at h<;>try exact h.elim
 case move x=>exact .mk' h (get (by simp[Op.operands]))
 case assign x=>exact .mk' h (get (by simp[Op.operands]))
 case pick c x y=>
  split at h
  ·rename_i t l
   exact zt (a:=a) (g:=g) (T:=T) (H:=H) l (get (by simp[Op.operands])) (fun _=>get (by simp[Op.operands])) (fun _=>get (by simp[Op.operands])) (by simp only[tV,l];exact h)
  ·grind
 case load t x=>
  split at h
  ·rename_i i hi;simp only[Be];rw[get (x:=x) (by simp[Op.operands])];exact kh (n _ _ hi) C A h
  ·grind
 case fieldAddr t x f=>
  split at h
  ·rename_i i hi;simp only[Be];rw[get (x:=x) (by simp[Op.operands])];exact Zhh (n _ _ hi) C h
  ·grind
 case field t x f=>
  split at h
  ·rename_i i hi;simp only[Be];rw[get (x:=x) (by simp[Op.operands])];exact ZmP (n _ _ hi) h
  ·grind
 case indexAddr t x j=>
  split at h
  ·rename_i i hi;simp only[Be];rw[get (x:=x) (by simp[Op.operands]),get (x:=j) (by simp[Op.operands])];exact Zhi (n _ _ hi) C A h
  ·grind
 case index t x j=>
  split at h
  ·rename_i i hi;simp only[Be];rw[get (x:=x) (by simp[Op.operands]),get (x:=j) (by simp[Op.operands])];exact Zl3 (n _ _ hi) A h
  ·grind
 case makeInterface t x=>
  split at h
  case h_2=>exact h.elim
  rename_i i hi
  have E:(i.str||i.elm.isSome)=true→J7 P t=true:=ts (n _ _ hi)
  simp only[Be]
  rw[get (x:=x) (by simp[Op.operands])]
  split at h
  ·rename_i xs D hx
   rw[hx]
   simp only[ren]
   split at h
   case h_2=>exact h.elim
   rename_i ds N
   have e:=Wd N
   subst e
   rw[Ic,N]
   exact⟨E D,.mk' h rfl⟩
  ·rename_i y D hx
   rw[hx]
   simp only[ren]
   exact⟨E D,.mk' h rfl⟩
  ·exact h.elim
 case typeAssert x u t ok=>
  split at h
  case h_2=>exact h.elim
  rename_i i hi
  have E:(i.str||i.elm.isSome)=true→J7 P t=true:=ts (n _ _ hi)
  simp only[Be]
  rw[get (x:=x) (by simp[Op.operands])]
  split at h
  case h_2=>exact h.elim
  rename_i u ds q D hx
  rw[hx]
  simp only[ren]
  split at h
  case h_2=>exact h.elim
  rename_i v X F
  rw[F]
  have G:ren r v=v:=by
   cases q with
   |true=>cases F;simp only[ren,Ic]
   |false=>
    match ds,F with
    |[d],F=>cases F;simp only[ren]
  refine⟨E D,Yd X,.mk' h ?_⟩
  cases ok with
  |true=>simp only[cond,ren,As,G]
  |false=>exact G.symm
 case extract x j=>
  simp only[Be]
  rw[get (x:=x) (by simp[Op.operands])]
  split at h
  ·rename_i vs hx
   rw[hx]
   simp only[ren,H8]
   rw[Cs]at h
   split at h
   ·rename_i y hy;rw[hy];exact .mk' h rfl
   grind
  ·grind
 case binOp o t x y u=>
  split at h
  ·rename_i i hi;simp only[Be];rw[get (x:=x) (by simp[Op.operands]),get (x:=y) (by simp[Op.operands])];exact Zqo (n _ _ hi) C A h
  ·grind
 case unOp o t x=>simp only[Be];rw[get (x:=x) (by simp[Op.operands])];exact ZtF A h
 case nilCheck x=>
  split at h
  ·rename_i k q off hx
   split at h
   ·rename_i hl
    simp only[Be]
    rw[get (x:=x) (by simp[Op.operands]),hx]
    obtain⟨O,Q,_,_,_⟩:=C.at hl
    simp only[ren,Jo]
    exact⟨O.symm▸rfl,Q,.mk' h (by simp[ren])⟩
   grind
  ·rename_i cs off hx
   simp only[Be]
   rw[get (x:=x) (by simp[Op.operands]),hx]
   simp only[ren,Jo]
   exact .mk' h (by simp[ren])
  ·grind
 case convert s d x=>
  split at h
  ·rename_i i j hi V;simp only[Be];rw[get (x:=x) (by simp[Op.operands])];exact Znn (n _ _ hi) (n _ _ V) A h
  ·grind
 case makeFunc fn first B=>
  have m:first.toList.map w=As r (first.toList.map ρ):=lZ fun x hx=>get (by simp only[Op.operands,OM];exact .inl (by simpa using hx))
  have I:B.toList.map w=As r (B.toList.map ρ):=lZ fun x hx=>get (by simp only[Op.operands,OM];exact .inr (by simpa using hx))
  simp only[Be]
  rw[m,I]
  split at h
  ·grind
  ·rename_i L
   refine .mk' h ?_
   cases fn<;>first|exact absurd rfl (L _)|simp[ren]
 case slice t x lo hi mx=>
  split at h
  ·rename_i i J
   simp only[Be]
   rw[get (x:=x) (by simp[Op.operands]),Zo3 (o:=lo) (fun y hy=>get (by subst hy;simp[Op.operands])),Zo3 (o:=hi) (fun y hy=>get (by subst hy;simp[Op.operands]))]
   exact ZlP (n _ _ J) C A h
  ·grind
 case build t parts=>
  split at h
  ·rename_i i hi E
   simp only[Be]
   have e:(parts.toList.map fun p=>(p.1,w p.2))=(parts.toList.map fun p=>(p.1,ρ p.2)).map fun p=>(p.1,ren r p.2):=by
    rw[I2]
    refine Eb fun p M=>?_
    simp only[Function.comp]
    rw[get (x:=p.2) (by simp only[Op.operands,ON,YT];exact⟨p,M,rfl⟩)]
   rw[e]
   refine Zme (n _ _ hi) (fun p M=>?_) (fun z Y=>KZ ((n _ _ hi).flt z Y)) h
   obtain⟨q,hq,rfl⟩:=YT.1 M
   grind
  ·grind
 case lookup t x y ck=>
  split at h
  ·rename_i i hi;simp only[Be];rw[get (x:=x) (by simp[Op.operands]),get (x:=y) (by simp[Op.operands])];exact Znc (n _ _ hi) C A h
  ·grind
 case call c=>
  split at h
  ·rename_i x t l hx W
   split at h
   ·rename_i i hi
    have m:c.args=#[x]:=Dk (by simpa using hx)
    have I:c.argTypes=#[t]:=Dk (by simpa using W)
    simp only[Be,l,m,I]
    show 1=1∧D0 P H' t (w x) (KR r K)
    rw[get (x:=x) (by simp[Op.operands,Call.operands,l,m])]
    exact⟨rfl,Zqe (n _ _ hi) C A h⟩
   grind
  ·rename_i x y l hx
   have m:c.args=#[x,y]:=Dk (by simpa using hx)
   simp only[Be,l,m]
   show Ey false (w x) (w y) (KR r K)
   rw[get (x:=x) (by simp[Op.operands,Call.operands,l,m]),get (x:=y) (by simp[Op.operands,Call.operands,l,m])]
   exact zW h
  ·rename_i x y l hx
   have m:c.args=#[x,y]:=Dk (by simpa using hx)
   simp only[Be,l,m]
   show Ey true (w x) (w y) (KR r K)
   rw[get (x:=x) (by simp[Op.operands,Call.operands,l,m]),get (x:=y) (by simp[Op.operands,Call.operands,l,m])]
   exact zW h
  ·rename_i x y z l hx
   have m:c.args=#[x,y,z]:=Dk (by simpa using hx)
   simp only[Be,l,m]
   show Hq true (w x) (w y) (w z) (KR r K)
   rw[get (x:=x) (by simp[Op.operands,Call.operands,l,m]),get (x:=y) (by simp[Op.operands,Call.operands,l,m]),get (x:=z) (by simp[Op.operands,Call.operands,l,m])]
   unfold Hq at h
   split at h
   ·rename_i R S U
    rw[R,S,U]
    simp only[ren,Hq];exact .mk' h rfl
   grind
  ·grind
end
abbrev CZ:=List (Nat×Bool)
abbrev BZ:=List (Nat×CZ)
def lk:BZ→Nat→CZ
 |[],_=>[]
 |(i,c)::r,j=>match Nat.beq i j with|true=>c|false=>lk r j
def Pn(t:Bool):Bool→Bool
 |true=>t
 |false=>!t
theorem kK{t b:Bool}:Pn t b=true↔t=b:=by cases t<;>cases b<;>simp[Pn]
def KP:CZ→CZ→Bool
 |[],[]=>true
 |(i,a)::r,(j,b)::q=>Nat.beq i j&&Pn a b&&KP r q
 |_,_=>false
theorem lD:∀{a b:CZ},KP a b=true→a=b
 |[],[],_=>rfl
 |(i,a)::r,(j,b)::q,h=>by
  simp only[KP,Yb]at h
  rw[Yd h.1.1,kK.1 h.1.2,lD h.2]
 |[],_::_,h=>by simp[KP]at h
 |_::_,[],h=>by simp[KP]at h
def UB(a:CZ):CZ→Bool
 |[]=>KP a []
 |q::b=>KP a (q::b)||UB a b
theorem Zpm{a:CZ}:∀{b:CZ},UB a b=true→∀q∈a,q∈b
 |[],h,q,c=>by rw[lD h]at c;exact c
 |p::b,h,q,c=>by
  simp only[UB,YI]at h
  rcases h with h|h
  ·rw[lD h]at c;exact c
  ·exact YC _ (Zpm h q c)
def Dg(s:Nat→AV)(c:CZ):Prop:=∀q∈c,s q.1=.d (.bool q.2)
def Hk(s:Nat→AV):CZ→Option Bool
 |[]=>some true
 |[(d,b)]=>match s d with|.d (.bool t)=>some (Pn t b)|_=>none
 |(d,b)::r=>match s d,Hk s r with|.d (.bool t),some c=>some (c&&Pn t b)|_,_=>none
theorem MV{s:Nat→AV}:∀{c:CZ} {g:Bool},Hk s c=some g→(g=true↔Dg s c)
 |[],g,h=>by simp only[Hk,Yj]at h;subst h;simp[Dg]
 |[(d,b)],g,h=>by
  simp only[Hk]at h
  split at h
  ·rename_i t f
   simp only[Yj]at h
   subst h
   rw[kK]
   simp[Dg,f]
  ·cases h
 |(d,b)::q::r,g,h=>by
  simp only[Hk]at h
  split at h
  ·rename_i t c f i
   simp only[Yj]at h
   subst h
   have j:=MV i
   rw[Yb,j,kK]
   constructor
   ·rintro⟨e,rfl⟩ p a
    rcases Yx.1 a with rfl|a
    ·exact f
    ·exact e p a
   ·intro e
    refine⟨fun p a=>e p (YC _ a),?_⟩
    have:=e (d,b) (YB ..)
    grind
  ·cases h
def NZ(e:Nat)(c:CZ):Bool:=c.all fun q=>!Nat.beq q.1 e
def fresh(e:Nat)(env:BZ):Bool:=env.all fun p=>NZ e p.2
theorem ZpE{s:Nat→AV}{e:Nat}{v:AV}{c:CZ}(h:NZ e c=true):Dg (upd s e v) c↔Dg s c:=by
 have key:∀q∈c,upd s e v q.1=s q.1:=fun q a=>by
  have:=Ys.1 h q a
  unfold upd
  rw[Yk]
  intro he
  subst he
  simp at this
 constructor
 ·exact fun h q a=>(key q a)▸h q a
 ·exact fun h q a=>(key q a).trans (h q a)
theorem Zpj{e:Nat}:∀{env:BZ},fresh e env=true→∀j,NZ e (lk env j)=true
 |[],_,j=>rfl
 |(i,c)::r,h,j=>by
  simp only[fresh,I1,Yb]at h
  simp only[lk]
  split
  ·exact h.1
  ·exact Zpj h.2 j
theorem lm{env:BZ}{e:Nat}{c:CZ}(j:Nat):lk ((e,c)::env) j=if j=e then c else lk env j:=by
 simp only[lk]
 by_cases h:j=e
 ·subst h;simp
 ·rw[Yk h]
  split
  ·rename_i a;exact absurd (Yd a).symm h
  ·rfl
def IQ(env:BZ)(c:CZ):Operand→Bool
 |.tmp t=>UB (lk env t) c
 |_=>true
def Co(env:BZ)(c:CZ):Op→Bool
 |.pick (.tmp d) x y=>IQ env c (.tmp d)&&IQ env ((d,true)::c) x&&IQ env ((d,false)::c) y
 |op=>op.operands.toList.all (IQ env c)
structure RenOk (r:Ren) (l outs:Nat):Prop where
 own:∀d,r.κ (1,d)=(l+1,d)
 out:∀i,i<outs→(r.κ (0,i)).1≤l
 inj:∀i j,i<outs→j<outs→r.κ (0,i)=r.κ (0,j)→i=j
 no:∀k,r.no k→∃i,i<outs∧r.κ (0,i)=k
structure RG (r:Ren) (l outs:Nat) (env:BZ) (τ σ:St):Prop where
 s:∀j,(Dg τ.s (lk env j)→σ.s j=ren r (τ.s j))∧(¬Dg τ.s (lk env j)→σ.s j=.tup [])
 h:DJ r τ.H σ.H
 g:∀d,(σ.H (l+1,d)).g=r.γ (1,d)+(τ.H (1,d)).g
 go:∀i,i<outs→(σ.H (r.κ (0,i))).g=r.γ (0,i)+(τ.H (0,i)).g
 k:∀k,(τ.H k).live=true→k.1=1∨(k.1=0∧k.2<outs)
 o:∀k:Af,k.1≤l→¬r.no k→σ.H k=r.H0 k
def If(P:Program)(l:Nat)(r:Ren)(f:FuncId)(xs:List AV)(c:List (Af×Blk))(x:AV):Prop:=
 ∀a,(∀p∈c,p.2.live=true→a (r.κ p.1)=AW r p.1 p.2)→(∀k:Af,k.1≤l→¬r.no k→a k=r.H0 k)→Zc1 P f (l+1) (As r xs) a (fun y b=>y=ren r x∧b=a)
def NG(P:Program)(l:Nat)(r:Ren)(i:Nat)(xs:List AV)(d:List (Af×Blk))(x:AV):Prop:=
 ∃f first a,r.θ i=.fn (.func f) first a∧∀b,(∀p∈d,p.2.live=true→b (r.κ p.1)=AW r p.1 p.2)→(∀k:Af,k.1≤l→¬r.no k→b k=r.H0 k)→Zc1 P f (l+1) (first++As r xs++a) b (fun y c=>y=ren r x∧c=b)
def X2(P:Program)(l:Nat)(r:Ren)(H:Hp)(f:AV)(xs:List AV)(g:Option Bool)(a:AT)(K:AV→AT→Prop):Prop:=
 match f,a with
 |.fn (.func i) first b,.call x ks a=>Bq g (If P l r i (first++xs++b) (ks.map fun k=>(k,H k)) x)∧K x a
 |.fn (.yield i) _ _,.call x ks a=>Bq g (NG P l r i xs (ks.map fun k=>(k,H k)) x)∧K x a
 |_,_=>False
def ZE(T:Nat→Option TI)(τ:St)(t:TypeId)(len:Nat)(parts:List (Nat×Operand))(a:AT)(K:AV→AT→Prop):Prop:=
 match T t with
 |some i=>(match i.elm with
  |some (e,sz)=>(match Nat.ble 1 sz,len with
   |true,0=>(match parts with|[]=>K .e0 a|_=>False)
   |true,len+1=>(match T e,Nat.ble ((len+1)*sz) 16777216 with
    |some j,true=>(match j.zer with
     |some z=>(match Nat.beq z.length sz,Gf sz 0 (parts.map fun p=>(p.1,ev τ.s p.2))with
      |true,some es=>(match Nat.beq es.length (len+1)with|true=>K (.d (.list es)) a|false=>False)
      |_,_=>False)
     |none=>False)
    |_,_=>False)
   |_,_=>False)
  |none=>False)
 |none=>False
def pV(P:Program)(T:Nat→Option TI)(l:Nat)(r:Ren)(τ:St)(op:Op)(g:Option Bool)(a:AT)(K:AV→AT→Prop):Prop:=
 match op with
 |.call c=>match c.callee with
  |.value f=>X2 P l r τ.H (ev τ.s f) (c.args.toList.map (ev τ.s)) g a K
  |_=>tV T τ.H op (ev τ.s) g a K
 |.buildSlice t len parts=>ZE T τ t len parts.toList a K
 |op=>tV T τ.H op (ev τ.s) g a K
def Fo(n d:Nat)(K:St→AT→Prop)(τ:St)(v:AV)(a:AT):Prop:=
 match Nat.ble (d+1) n with
 |true=>K ⟨upd τ.s d v,τ.H⟩ a
 |false=>False
section
variable {P:Program} {T:Nat→Option TI} {r:Ren} {l n outs:Nat} {env:BZ} {τ σ:St} {g:Option Bool} {a:AT} {c:CZ}
theorem ZMK(v:Value):ren r (cv v)=cv v:=by unfold cv;split<;>simp[ren]
theorem Lk(h:RG r l outs env τ σ)(hs:Dg τ.s c){x:Operand}(hx:IQ env c x=true):ev σ.s x=ren r (ev τ.s x):=by
 cases x with
 |tmp t=>exact(h.s t).1 fun q a=>hs q (Zpm hx q a)
 |const v=>exact(ZMK v).symm
 |global g=>simp[ev,ren]
 |func f=>simp[ev,ren,As]
theorem Hf(h:RG r l outs env τ σ)(hs:Dg τ.s c){op:Op}(hx:op.operands.toList.all (IQ env c)=true):∀x∈op.operands,ev σ.s x=ren r (ev τ.s x):=
 fun x hm=>Lk h hs (Ys.1 hx x (by simpa using hm))
theorem sV(s:Bl P T)(h:RG r l outs env τ σ)(hs:Dg τ.s c)(u:∀b,g=some b→b=true){op:Op}(hx:Co env c op=true){K:AV→AT→Prop}(i:tV T τ.H op (ev τ.s) g a K):
  Be P σ.H op (ev σ.s) (KR r K):=by
 unfold Co at hx
 split at hx
 ·rename_i d x y
  simp only[Yb]at hx
  obtain⟨⟨n,o⟩,p⟩:=hx
  have f:=i
  simp only[tV]at f
  split at f
  ·rename_i t k
   have m:=Lk h hs n
   refine zt (T:=T) (H:=τ.H) (g:=g) (a:=a) k m (fun e=>Lk h (c:=(d,true)::c) ?_ o) (fun e=>Lk h (c:=(d,false)::c) ?_ p) i
   all_goals
    subst e
    intro q j
    rcases Yx.1 j with rfl|j
    ·exact k
    ·exact hs q j
  grind
 ·exact Zx3 s h.h u (Hf h hs hx) i
theorem kF(h:RG r l outs env τ σ)(hs:Dg τ.s c)(s:∀b,g=some b→b=true){cl:Call}{f:Operand}(o:cl.callee=.value f)(hx:Co env c (.call cl)=true){K:AV→AT→Prop}
  (e:X2 P l r τ.H (ev τ.s f) (cl.args.toList.map (ev τ.s)) g a K):
  ∃i first d x j,ev σ.s f=.fn (.func i) first d∧Zc1 P i (l+1) (first++cl.args.toList.map (ev σ.s)++d) σ.H (fun y t=>y=ren r x∧t=σ.H)∧K x j:=by
 have hx:(Op.call cl).operands.toList.all (IQ env c)=true:=hx
 have q:=Hf h hs hx f (by simp[Op.operands,Call.operands,o])
 have m:cl.args.toList.map (ev σ.s)=As r (cl.args.toList.map (ev τ.s)):=lZ fun x hm=>Hf h hs hx x (by simp only[Op.operands,Call.operands,o,OM];exact .inr (by simpa using hm))
 have n:∀ks:List Af,∀p∈ks.map fun k=>(k,τ.H k),p.2.live=true→σ.H (r.κ p.1)=AW r p.1 p.2:=fun ks p e hl=>by
  obtain⟨k,A,rfl⟩:=YT.1 e
  exact h.h k hl
 unfold X2 at e
 split at e
 ·rename_i i first d x ks j he
  have v:If _ _ _ _ _ _ _:=BD s e.1
  refine⟨i,As r first,As r d,x,j,by rw[q,he];simp[ren],?_,e.2⟩
  rw[m,←Hd,←Hd]
  exact v σ.H (n ks) h.o
 ·rename_i i xs ys x ks j he
  obtain⟨u,first,d,w,z⟩:NG _ _ _ _ _ _ _:=BD s e.1
  refine⟨u,first,d,x,j,by rw[q,he];simp[ren,w],?_,e.2⟩
  rw[m]
  exact z σ.H (n ks) h.o
 grind
theorem RG.put(h:RG r l outs env τ σ){e:Nat}{ch:CZ}(b:fresh e env=true)(c:NZ e ch=true){v:AV}{y:AV}(hy:Dg τ.s ch→y=ren r v)(d:¬Dg τ.s ch→y=.tup []):
  RG r l outs ((e,ch)::env) ⟨upd τ.s e v,τ.H⟩ ⟨upd σ.s e y,σ.H⟩:=by
 refine⟨fun j=>?_,h.h,h.g,h.go,h.k,h.o⟩
 simp only
 rw[lm]
 by_cases a:j=e
 ·subst a
  rw[Ym rfl,ZpE c]
  simp only[upd,Yv]
  grind
 ·rw[Yk a,ZpE (Zpj b j)]
  simp only[upd,Yk a]
  exact h.s j
end
section
variable {P:Program} {l n:Nat} {H:Hp} {m:Mu} {S:Nat→Prop} {w w':World} {s:Nat→AV} {a:Act}
theorem MEnt.push{q:Bool}{es:List (List D)}{ents:Array MapEntry}{a:Nat}{s:ByteArray}{ds:List D}{v:Value}(h:MEnt w S q es ents a)(g:VR w S q ds v):
  MEnt w S q (es++[.str s::ds]) (ents.push {key:=.string s,val:=v,born:=a }) (a+1):=by
 have b:∀(i:Nat) (y:MapEntry),(ents.push {key:=.string s,val:=v,born:=a })[i]?=some y→(i=ents.size∧y={key:=.string s,val:=v,born:=a })∨(i≠ents.size∧ents[i]?=some y):=fun i y hy=>by
  grind
 refine⟨by simp[h.n],fun i k y z hy j e=>?_,fun i y hy=>?_,fun i e y hi hy=>?_⟩
 ·rcases b i y hy with⟨rfl,rfl⟩|⟨a1,c⟩<;>rcases b k z j with⟨rfl,rfl⟩|⟨l,f⟩
  ·rfl
  ·have:=h.clk k z f;simp only at e;omega
  ·have:=h.clk i y c;simp only at e;omega
  ·exact h.born i k y z c f e
 ·rcases b i y hy with⟨rfl,rfl⟩|⟨a1,c⟩
  ·grind
  ·exact ak (h.clk i y c)
 ·rcases b i y hy with⟨rfl,rfl⟩|⟨a1,c⟩
  ·rw[h.n,Yu (Yf _),Nat.sub_self]at hi
   cases hi
   exact⟨s,ds,rfl,rfl,g⟩
  ·have d:i<es.length:=by rw[←h.n];exact PP c
   rw[Yp d]at hi
   exact h.e i e y hi c
end
section
variable {P:Program} {l n:Nat} {B:Base} {H H':Hp} {m m':Mu} {S S':Nat→Prop} {w w':World} {s:Nat→AV} {a:Act} {K:St→Prop} {o:Oper}
theorem lw{k:Af}{g:Nat}{v:Value}(h:RepA w S H m l (.mp k g) v)(b:g=(H k).g)(hl:(H k).live=true):k.1≤l∧v=.map (some (m k).b):=by
 cases h with
 |mpL _ c _=>exact⟨c,rfl⟩
 |mpD _ _ _ _ _ a _=>rw[a b]at hl;cases hl
end
end Go.Eng
