import Derived.Test.YthcplkfhnnlafaaGreatZm03
import Derived.Test.YthcplkfhnnlafaaGreatZm01
import Derived.Maps.RangeRun
import Derived.Test.YthcplkfhnnlafaaGreatZm00
namespace Go.Eng
open Go
set_option linter.all false
inductive Waits (ops:Array Oper):Nat->Nat->Prop
 |one {j i:Nat} {oj:Oper} {e:Edge} (hj:ops[j]?=some oj) (he:e∈oj.after) (hb:Region.binds .any e=true) (hi:e.on=i):Waits ops j i
 |more {j m i:Nat} {oj:Oper} {e:Edge} (hj:ops[j]?=some oj) (he:e∈oj.after) (hb:Region.binds .any e=true) (hm:e.on=m) (h:Waits ops m i):Waits ops j i
def R4(L:List Oper)(i:Nat):Nat->Nat->Bool
 |0,_=>false
 |a+1,j=>match Bp L j with|some b=>b.after.toList.any λe=>Region.binds .any e&&(Nat.beq e.on i||R4 L i a e.on)|none=>false
theorem fX{L:List Oper}{i:Nat}:∀(a j:Nat),R4 L i a j=true->Waits L.toArray j i
 |0,j,h=>by cases h
 |a+1,j,h=>by
  unfold R4 at h;rw[CC]at h;split at h
  ·rename_i f d;obtain⟨e,he,h⟩:=YP.1 h;rw[Yc,YG]at h;have c:L.toArray[j]?=some f:=(by simpa using d);rcases h.2 with b|b
   ·exact .one c (by simpa using he) h.1 (Yd b)
   ·exact .more c (by simpa using he) h.1 rfl (fX a _ b)
  ·cases h
def DC(ops:Array Oper)(a:Array Bool):Prop:=∀(m:Nat) (b:Oper),ops[m]?=some b->a.getD m false=true->∀e∈b.after,Region.binds .any e=true->a.getD e.on false=true
theorem DC.waits{ops:Array Oper}{a:Array Bool}(h:DC ops a){j i:Nat}(d:Waits ops j i):a.getD j false=true->a.getD i false=true:=by
 induction d with
 |one c he b hi=>intro hl;rw[<-hi];exact h _ _ c hl _ he b
 |more c he b hm _ e=>intro hl;exact e (by rw[<-hm];exact h _ _ c hl _ he b)
theorem ZDg{a:Array Bool}{i:Nat}(h:a.getD i true=false):a.getD i false=false:=by grind
theorem DC.ready{ops:Array Oper}{a:Array Bool}(h:DC ops a){j:Nat}(g:j∈Region.ready .any ops a):DC ops (a.setIfInBounds j true):=by
 obtain⟨k,l,d,b⟩:=mem_ready.1 g;intro m i hm hl e he f;by_cases c:j=m
 ·subst c;rw[d]at hm;cases hm;exact getD_set_true (b e he f)
 ·rw[getD_set_ne false c]at hl;exact getD_set_true (h m i hm hl e he f)
theorem DC.nowait{ops:Array Oper}{a:Array Bool}(h:DC ops a){j i:Nat}(k:j∈Region.ready .any ops a)(hi:a.getD i true=false):¬Waits ops j i:=λl=>by
 obtain⟨m,n,d,c⟩:=mem_ready.1 k;have hi:=ZDg hi;cases l with
 |one b he f g=>
  grind
 |more b he f hm e=>
  rw[d]at b;cases b;have:=h.waits e (by rw[<-hm];exact c _ he f);grind
def Cd(o:Oper):Bool:=match o.op,o.dst,o.guard with
 |.store _ _ _,none,none=>true
 |_,_,_=>false
def Iu(o:Oper):Bool:=match o.op with
 |.move _=>true
 |.binOp b _ _ _ _=>(match b with|.add=>true|.sub=>true|_=>false)
 |.indexAddr _ _ _=>true
 |.fieldAddr _ _ _=>true
 |.nilCheck _=>true
 |_=>false
def cL(H H':Hp):Prop:=∀k,(H' k).g=(H k).g/\(H' k).live=(H k).live/\(H' k).sz=(H k).sz
def P8(L:List Oper)(p:Oper)(k:Nat):Bool:=Cq p k||p.after.toList.any λe=>Region.binds .any e&&(match L[e.on]? with|some a=>Cq a k|none=>false)
def UA(L:List Oper)(o:Oper)(k:Nat):Nat->List Oper->Bool
 |_,[]=>true
 |j,p::r=>(match Cd o with|true=>Cq p k|false=>true)&&(match Cd p with|true=>Iu o||P8 L p k|false=>true)&&!Cq o j&&UA L o k (j+1) r
def MZ(L:List Oper):Nat->List Oper->Bool
 |_,[]=>true
 |k,o::r=>UA L o k (k+1) r&&MZ L (k+1) r
theorem zo{L:List Oper}{o:Oper}{k:Nat}:∀{l:List Oper} {j i:Nat} {p:Oper},UA L o k j l=true->l[i]?=some p->(Cd o=true->Cq p k=true)/\(Cd p=true->Iu o=true\/P8 L p k=true)/\Cq o (j+i)=false
 |[],j,i,p,_,h=>by simp at h
 |q::r,j,i,p,a,h=>by
  simp only[UA,Yc,YM]at a;cases i with
  |zero=>
   grind
  |succ i=>
   have:=zo a.2 (i:=i) (by simpa using h);grind
theorem jc{L:List Oper}:∀{l:List Oper} {k i j:Nat} {o p:Oper},MZ L k l=true->i<j->l[i]?=some o->l[j]?=some p->(Cd o=true->Cq p (k+i)=true)/\(Cd p=true->Iu o=true\/P8 L p (k+i)=true)/\Cq o (k+j)=false
 |[],k,i,j,o,p,_,_,h,_=>by simp at h
 |q::r,k,i,j,o,p,b,c,h,a=>by
  simp only[MZ,Yc]at b;cases j with
  |zero=>omega
  |succ j=>
   have a:r[j]?=some p:=(by simpa using a);cases i with
   |zero=>
    simp only[G7,Yo]at h;subst h;have:=zo b.1 a;grind
   |succ i=>
    have:=jc b.2 (Nat.lt_of_succ_lt_succ c) (by simpa using h) a;grind
theorem hM{p:Oper}{k:Nat}(h:Cq p k=true)(b:∀e∈p.after,Region.binds .any e=true->e.on≠k):False:=by unfold Cq at h;rw[YP]at h;obtain⟨e,he,a⟩:=h;simp only[Yc]at a;exact b e (by simpa using he) a.1 (Yd a.2)
section
variable {P:Program} {l n:Nat} {B:Base} {H H':Hp} {ops:Array Oper} {ρ:Operand->AV}
theorem sh{o:Oper}{v:AV}(h:Iu o=true)(hs:cL H H')(a:qV P l H o ρ v):qV P l H' o ρ v:=by
 obtain⟨e,op,type,pos,after,guard⟩:=o;cases op<;>simp only[Iu]at h<;>first|(cases h;done)|skip
 case move=>exact a
 case nilCheck=>
  simp only[qV,A8]at a⊢;unfold Ku at a⊢;split at a
  ·rename_i k g off _;obtain⟨b,c,d⟩:=hs k;grind
  ·exact a
  ·grind
 case fieldAddr=>
  simp only[qV,A8]at a⊢;unfold FH at a⊢;split at a
  ·exact a
  ·rename_i k g off o n _ _;obtain⟨b,c,d⟩:=hs k;grind
  ·grind
 case indexAddr=>
  simp only[qV,A8]at a⊢;unfold E2 at a⊢;split at a
  ·exact a
  ·rename_i k g off len _ n _ sz _ _ _;obtain⟨b,c,d⟩:=hs k;grind
  ·grind
 case binOp=>
  simp only[qV,A8]at a⊢;unfold C8 at a⊢;split at a
  ·exact a
  ·exact a
  ·grind
  ·exact a
  ·grind
  ·grind
theorem ZPl{o:Oper}{s:Nat->AV}{v:AV}(h:Iu o=true)(hs:cL H H')(a:YA P l H ops o s v):YA P l H' ops o s v:=by
 unfold YA at a⊢;split at a
 ·exact sh h hs a
 ·split at a
  ·exact⟨λe=>sh h hs (a.1 e),a.2⟩
  grind
def HK(P:Program)(l:Nat)(o:Oper)(s:Nat->AV)(H H':Hp):Prop:=match o.op with
 |.store t a x=>match ev s a,Dp (ev s x)with
  |.ptr k g off,some vs=>g=(H k).g/\(H k).live=true/\vs.length=P.cellsOf t/\vs≠[]/\off+vs.length<=(H k).cells.length/\(k.1=l+1\/vs.all (AV.low k.1)=true)/\
    H'=updH H k {H k with cells:=(H k).cells.take off++vs++(H k).cells.drop (off+vs.length) }
  |_,_=>False
 |_=>False
theorem ZC7{o:Oper}{s:Nat->AV}(h:HK P l o s H H'):cL H H':=by
 unfold HK at h;split at h
 ·split at h
  ·obtain⟨_,_,_,_,_,_,rfl⟩:=h;intro k;unfold updH;grind
  grind
 grind
theorem ZMl{o:Oper}{s:Nat->AV}{K:St->Prop}(hs:Cd o=true)(h:BI P l n o K ⟨s,H⟩):∃H',HK P l o s H H'/\K ⟨s,H'⟩:=by
 obtain⟨a,op,type,pos,after,guard⟩:=o;cases op<;>simp only[Cd]at hs<;>first|(cases hs;done)|skip
 cases a with
 |some d=>cases hs
 |none=>
  simp only[BI]at h;simp only[HK];grind
theorem ZIY{o:Oper}{s:Nat->AV}{K:St->Prop}(hs:Cd o=true)(h:HK P l o s H H')(b:K ⟨s,H'⟩):BI P l n o K ⟨s,H⟩:=by
 obtain⟨a,op,type,pos,after,guard⟩:=o;cases op<;>simp only[Cd]at hs<;>first|(cases hs;done)|skip
 cases a with
 |some d=>cases hs
 |none=>
  simp only[HK]at h;simp only[BI];grind
theorem ZEa{o:Oper}{s:Nat->AV}{d:Nat}{u:AV}(g:d∉o.looksAt ops)(h:HK P l o (upd s d u) H H'):HK P l o s H H':=by
 have b:∀x∈o.op.operands,ev (upd s d u) x=ev s x:=λx hx=>by
  cases x with
  |tmp t=>
   have c:t≠d:=λe=>g (by subst e;exact IE _ (List.mem_filterMap.2 ⟨.tmp t,by simpa using hx,rfl⟩));simp[ev,upd,c]
  |_=>rfl
 unfold HK at h⊢;split at h
 ·rename_i t a x f;rw[b a (by rw[f];simp[Op.operands]),b x (by rw[f];simp[Op.operands])]at h;exact h
 grind
variable {fin:Bool} {X:St->Prop}
def F7(P:Program)(l n:Nat)(ops:Array Oper)(fin:Bool)(X:St->Prop)(i:Nat)(K:St->Prop)(σ:St):Prop:=
 match ops[i]? with
 |none=>K σ
 |some o=>(Dq o=true/\∃d v,o.dst=some d/\d<n/\YA P l σ.H ops o σ.s v/\K ⟨upd σ.s d v,σ.H⟩)\/(Cd o=true/\∃H',HK P l o σ.s σ.H H'/\K ⟨σ.s,H'⟩)\/(fin=true/\i+1=ops.size/\X σ)
def L2(P:Program)(l n:Nat)(ops:Array Oper)(fin:Bool)(X:St->Prop)(Q:St->Prop):Nat->Array Bool->St->Prop
 |0,a,σ=>Region.ready .any ops a=[]/\Q σ
 |fuel+1,a,σ=>(Region.ready .any ops a=[]->Q σ)/\∀i∈Region.ready .any ops a,F7 P l n ops fin X i (L2 P l n ops fin X Q fuel (a.setIfInBounds i true)) σ
theorem Zwp{i:Nat}{K g:St->Prop}{σ:St}(h:∀s,K s->g s)(b:F7 P l n ops fin X i K σ):F7 P l n ops fin X i g σ:=by
 unfold F7 at*;split
 ·rename_i e;rw[e]at b;exact h _ b
 ·rename_i o e;rw[e]at b;rcases b with⟨a,d,v,c,f,j,k⟩|⟨a,H',c,f⟩|a
  ·exact .inl ⟨a,d,v,c,f,j,h _ k⟩
  ·exact .inr (.inl ⟨a,H',c,h _ f⟩)
  ·exact .inr (.inr a)
theorem ZGp{i j:Nat}{c t:Oper}{d:Nat}{v:AV}(A:ops[j]?=some t)(a:c.dst=some d)(m:c.apart ops t=true)(p:Cd t=true->Iu c=true)(r:fin=true->j+1≠ops.size){K:St->Prop}{s:Nat->AV}
  (hy:YA P l H ops c s v) (h:F7 P l n ops fin X j K ⟨upd s d v,H⟩):F7 P l n ops fin X j (λg=>YA P l g.H ops c g.s v/\K ⟨upd g.s d v,g.H⟩) ⟨s,H⟩:=by
 obtain⟨w,x,y⟩:=Oper.apart_spec m;unfold F7 at*;simp only[A]at*;rcases h with⟨b,e,u,he,o,f,k⟩|⟨b,H',f,k⟩|⟨b,z,_⟩
 ·refine .inl ⟨b,e,u,he,o,lV (w d a) f,ZC4 (y e he) hy,?_⟩;have q:d≠e:=λe'=>x d a (e'▸he);rw[Zzb (Ne.symm q)];exact k
 ·exact .inr (.inl ⟨b,H',ZEa (w d a) f,ZPl (p b) (ZC7 f) hy,k⟩)
 ·exact absurd z (r b)
theorem ZrF{Q:St->Prop}{i:Nat}{p:Oper}{d:Nat}{v:AV}(hi:ops[i]?=some p)(hq:Dq p=true)(E:p.dst=some d)(M:d<n):
  ∀(fuel:Nat) (a:Array Bool) (s:Nat->AV) (H:Hp),
   (∀j w,ops[j]?=some w->j≠i->a.getD j true=false->(∀e∈w.after,Region.binds .any e=true->e.on≠i/\∀b,ops[e.on]?=some b->Cq b i=false)->¬Waits ops j i->p.apart ops w=true/\(Cd w=true->Iu p=true)/\(fin=true->j+1≠ops.size))->DC ops a->
   (∀m b,ops[m]?=some b->Cq b i=true->a.getD m true=false)->i∈Region.ready .any ops a->YA P l H ops p s v->
   L2 P l n ops fin X Q fuel (a.setIfInBounds i true) ⟨upd s d v,H⟩->L2 P l n ops fin X Q (fuel+1) a ⟨s,H⟩:=by
 have x:∀{K:St->Prop} {s:Nat->AV} {H:Hp},YA P l H ops p s v->K ⟨upd s d v,H⟩->F7 P l n ops fin X i K ⟨s,H⟩:=λhy hK=>by unfold F7;simp only[hi];exact .inl ⟨hq,d,v,E,M,hy,hK⟩
 intro fuel
 induction fuel with
 |zero=>
  intro a s H _ _ U u hy C;refine⟨λh=>(by rw[h]at u;cases u),λj B=>?_⟩;by_cases c:j=i
  ·subst c;exact x hy C
  ·have:=ready_mono B c;rw[C.1]at this;cases this
 |succ fuel ih=>
  intro a s H g Y U u hy C;refine⟨λh=>(by rw[h]at u;cases u),λj B=>?_⟩;by_cases c:j=i
  ·subst c;exact x hy C
  ·have f:=C.2 j (ready_mono B c);obtain⟨r,w,A,q⟩:=mem_ready.1 B;have t:∀e∈w.after,Region.binds .any e=true->e.on≠i:=λe he J heq=>by
    have f:=q e he J;have D:=(mem_ready.1 u).1;rw[heq]at f;rcases YN i a.size with y|y
    ·simp[y]at D f;rw[D]at f;cases f
    ·simp[Gh y]at f
   have z:∀e∈w.after,Region.binds .any e=true->e.on≠i/\∀b,ops[e.on]?=some b->Cq b i=false:=λe he J=>⟨t e he J,λb T=>by
    cases L:Cq b i with
    |false=>rfl
    |true=>
     have f:=q e he J;have D:=U _ b T L;rcases YN e.on a.size with y|y
     ·simp[y]at D f;rw[D]at f;cases f
     ·simp[Gh y]at f⟩
   have N:=g j w A c r z (Y.nowait B (mem_ready.1 u).1);have h2:=ZGp (i:=i) A E N.1 N.2.1 N.2.2 hy f;have o:∀k ok,ops[k]?=some ok->k≠i->(a.setIfInBounds j true).getD k true=false->
     (∀e∈ok.after,Region.binds .any e=true->e.on≠i/\∀b,ops[e.on]?=some b->Cq b i=false)->¬Waits ops k i->p.apart ops ok=true/\(Cd ok=true->Iu p=true)/\(fin=true->k+1≠ops.size):=λk ok hk O I R S=>by
    refine g k ok hk O ?_ R S;by_cases F:j=k
    ·subst F;exact r
    ·rw[getD_set_ne true F]at I;exact I
   have V:∀m b,ops[m]?=some b->Cq b i=true->(a.setIfInBounds j true).getD m true=false:=λm b hm L=>by
    by_cases G:j=m
    ·subst G;rw[A]at hm;cases hm;exact(hM L t).elim
    ·rw[getD_set_ne true G];exact U m b hm L
   refine Zwp (λZ W=>ih (a.setIfInBounds j true) Z.s Z.H o (Y.ready B) V (ready_mono u (Ne.symm c)) W.1 ?_) h2;rw[lK _ _ c];exact W.2
theorem gQ{K K0:St->Prop}{m:Nat}(q:∀k (a:Array Bool) (s:Nat->AV) (H:Hp),k+m=ops.size->(∀j,a.getD j true=false->k<=j)->Region.lexFrom .any ops m k a=true->K0 ⟨s,H⟩->L2 P l n ops fin X K m a ⟨s,H⟩)(x:fin=true->∀i,i+1<ops.size->Waits ops (ops.size-1) i)(A:∀i j O w,i<j->ops[i]?=some O->ops[j]?=some w->(Cd O=true->Cq w i=true)/\(Cd w=true->Iu O=true\/P8 ops.toList w i=true)/\Cq O j=false):
  ∀(rest:List Oper) (k:Nat) (a:Array Bool) (s:Nat->AV) (H:Hp),rest.all (λo=>Dq o||Cd o)=true->(∀j,a.getD j true=false->k<=j)->(∀j,k<=j->j<ops.size->a.getD j true=false)->
  k+rest.length+m=ops.size->DC ops a->(∀j,j<rest.length->rest[j]?=ops[k+j]?)->Region.lexFrom .any ops (rest.length+m) k a=true->Ew P l n (ops.toList.map (·.dst)) rest K0 ⟨s,H⟩->L2 P l n ops fin X K (rest.length+m) a ⟨s,H⟩
 |[],k,a,s,H,_,G,_,u,_,_,D,h=>by simp only[HP,YU,Gg]at D u⊢;exact q k a s H u G D h
 |o::rest,k,a,s,H,hq,G,hk2,u,hD,hl,D,h=>by
  have N:ops[k]?=some o:=by simpa using(hl 0 (by simp)).symm
  rw[Em,Nat.add_right_comm]at D⊢;simp only[Region.lexFrom,Yc]at D;obtain⟨⟨E,hf⟩,R⟩:=D;have E:k∈Region.ready .any ops a:=by simpa using E
  simp only[J6,Yc,YG]at hq;have V:∀j,(a.setIfInBounds k true).getD j true=false->k+1<=j:=λj F=>by
   by_cases p:k=j
   ·subst p;exfalso;rcases YN k a.size with M|M
    ·simp[M]at F
    grind
   ·rw[getD_set_ne true p]at F;grind
  have I:∀j,k+1<=j->j<ops.size->(a.setIfInBounds k true).getD j true=false:=λj h1 h2=>by rw[getD_set_ne true ae];grind
  have hu:∀m om,ops[m]?=some om->Cq om k=true->a.getD m true=false:=λm om hm ho=>by grind
  have Y:∀j,j<rest.length->rest[j]?=ops[k+1+j]?:=λj F=>by have:=hl (j+1) (by simp;omega);simpa[YO,PL 1 j]using this
  have next:∀s' H',Ew P l n (ops.toList.map (·.dst)) rest K0 ⟨s',H'⟩->L2 P l n ops fin X K (rest.length+m) (a.setIfInBounds k true) ⟨s',H'⟩:=λs' H' M=>
   gQ q x A rest (k+1) _ s' H' (by simpa using hq.2) V I (by simp only[Em]at u;omega) (hD.ready E) Y R M
  by_cases f:Cd o=true
  ·
   have z:o.guard=none:=by
    cases z:o.guard with
    |none=>rfl
    |some _=>obtain⟨Q,op,type,pos,after,guard⟩:=o;simp only at z;subst z;cases op<;>cases Q<;>simp[Cd]at f
   have L:BI P l n o (Ew P l n (ops.toList.map (·.dst)) rest K0) ⟨s,H⟩:=by
    unfold Ew at h;simp only[z]at h;unfold GI at h;split at h
    ·rename_i S;simp[Cd,S]at f
    ·rename_i c S;simp[Cd,S]at f
    ·exact h
   obtain⟨H',hS,hK⟩:=ZMl f L;refine⟨λh=>(by rw[h]at E;cases E),λj F=>?_⟩;by_cases p:j=k
   ·subst p;unfold F7;grind
   ·exfalso;obtain⟨g,w,r,hall⟩:=mem_ready.1 F;have W:=G j g;have he:=(A k j o w ae N r).1 f;refine hM he λe he y heq=>?_;grind
  ·have C:Dq o=true:=(by rcases hq.1 with h|h;exact h;exact absurd h f);have hst:∃d v,o.dst=some d/\d<n/\YA P l H ops o s v/\Ew P l n (ops.toList.map (·.dst)) rest K0 ⟨upd s d v,H⟩:=by
    unfold Ew at h;unfold YA;cases z:o.guard with
    |none=>simp only[z]at h;exact xR C h
    |some gw=>
     obtain⟨i,b⟩:=gw;simp only[z]at h⊢;split at h
     ·rename_i t ht;cases t with
      |true=>
       obtain⟨d,v,h1,h2,h3,h4⟩:=xR C (h.1 rfl);grind
      |false=>
       grind
     grind
   obtain⟨d,v,hd,T,hy,hK⟩:=hst;refine ZrF N C hd T (rest.length+m) a s H (λj w r p g J Z=>⟨Region.free_spec N hf j w r p g (λe he y=>(J e he y).1),λhsj=>?_,λU B=>Z (by have:=x U k (by have:=G j g;omega);rwa [<-B,Nat.add_sub_cancel]at this)⟩) hD hu E hy (next _ _ hK);have W:=G j g;rcases(A k j o w ae N r).2.1 hsj with h|h
   ·exact h
   ·exfalso;unfold P8 at h;rw[YG]at h;rcases h with h|h
    ·exact hM h λe he y=>(J e he y).1
    ·obtain⟨e,he,y⟩:=YP.1 h;rw[Yc]at y;obtain⟨Dd,Av⟩:=y;split at Av
     ·grind
     grind
theorem ZoK{i:Nat}{σ:St}{a:Act}{w:World}{K:St->Prop}{q:Act->World->Prop}{f:Exit->Act->World->Prop}(r:R l n B σ a w)
  (h:∀σ a w,R l n B σ a w->K σ->q a w) (L:fin=true->i+1=ops.size->X σ->wpOp P ops f i q a w) (A:F7 P l n ops fin X i K σ):wpOp P ops f i q a w:=by
 have z:=L;obtain⟨s,H⟩:=σ;unfold F7 at A;unfold wpOp;split
 ·grind
 ·rename_i o G;simp only[G]at A;rcases A with⟨C,d,v,F,g,hy,E⟩|⟨k,H',y,E⟩|⟨T,U,V⟩
  rotate_left 2
  ·have:=z T U V;unfold wpOp at this;simpa only[G]using this
  ·have go:qV P l H o (ev s) v->o.wp P a w q f:=λQ=>by have:=ZMX (B:=B) C F g Q a w r f;refine Oper.wp_mono (λI w' ⟨D,e,x⟩=>?_) this;grind
   unfold YA at hy;cases c:o.guard with
   |none=>
    simp only[c]at hy;rw[Yi (by simp[Region.wanted,c])];grind
   |some J=>
    obtain⟨j,b⟩:=J;simp only[c]at hy;split at hy
    ·rename_i t O;have p:(yielded ops a.tmps j==some b)=t:=(by obtain⟨m,S,W,Y,M,y,N⟩:=r.un;exact gH y O);cases t with
     |true=>
      rw[Yi (by simp only[Region.wanted,c];exact p)];grind
     |false=>
      rw[Yh (by simp only[Region.wanted,c,p];decide)];have:=hy.2 rfl;subst this;rw[F];exact h _ _ _ (R.undef r g) E
    grind
  ·have c:o.guard=none:=by
    cases c:o.guard with
    |none=>rfl
    |some _=>obtain⟨u,op,type,pos,after,guard⟩:=o;simp only at c;subst c;cases op<;>cases u<;>simp[Cd]at k
   rw[Yi (by simp[Region.wanted,c])];refine .inl ?_;have:=Mh (B:=B) (ZIY (n:=n) (K:=λD=>D=⟨s,H'⟩) k y rfl) a w r f;refine Oper.wp_mono (λI w' ⟨D,e,x⟩=>?_) this;grind
theorem wu{c:Exit->Act->World->Prop}{b:Array Bool}(h:Region.ready .any ops b=[]){a:Act}{w:World}(d:c .normal a w):∀fuel,wpAny P .any ops c fuel b a w
 |0=>⟨h,d⟩
 |_+1=>⟨λ_=>d,λi hi=>by rw[h]at hi;cases hi⟩
theorem fy{Q:St->Prop}{p:Exit->Act->World->Prop}(r:∀σ a w,R l n B σ a w->Q σ->p .normal a w)(c:fin=true->∀i,i+1<ops.size->Waits ops (ops.size-1) i)(z:fin=true->∀σ a w,R l n B σ a w->X σ->∀o,ops[ops.size-1]?=some o->wpList P ops p [o] a w):
  ∀(fuel:Nat) (b:Array Bool) (σ:St) (a:Act) (w:World),DC ops b->R l n B σ a w->L2 P l n ops fin X Q fuel b σ->wpAny P .any ops p fuel b a w
 |0,_,_,_,_,_,f,h=>⟨h.1,r _ _ _ f h.2⟩
 |fuel+1,b,σ,a,w,y,f,h=>⟨λv=>r _ _ _ f (h.1 v),λi hi=>ZoK f (λs' u w' s E=>fy r c z fuel _ s' u w' (y.ready hi) s E) (λD K I=>by
  obtain⟨v,o,C,A⟩:=mem_ready.1 hi;have e:ops.size-1=i:=ae
  have hw:=z D σ a w f I o (by rw[e];exact C);have k:Region.ready .any ops (b.setIfInBounds i true)=[]:=by
   refine List.eq_nil_iff_forall_not_mem.2 λj F=>?_;obtain⟨m,J,t,_⟩:=mem_ready.1 F;have G:j<ops.size:=(G5.1 t).1;by_cases g:i=j
   ·subst g;rcases YN i b.size with q|q
    ·simp[q]at m
    ·simp[Gh q]at m
   ·rw[getD_set_ne true g]at m;have x:=c D j ae;rw[e]at x;exact y.nowait hi m x
  unfold wpOp;simp only[C];unfold wpList at hw;split
  ·rename_i d;rw[Yi d]at hw;exact hw.imp (Oper.wp_mono λu w' H=>wu k H _) id
  ·rename_i d;rw[Yh d]at hw;exact wu k hw _) (h.2 i hi)⟩
theorem DC.none(n:Nat):DC ops (Array.replicate n false):=λm b _ h=>by
 rw[YD]at h;rcases YN m n with a|a
 ·simp[a]at h
 ·simp[Nat.not_lt.2 a]at h
theorem ZqV{id:Nat}{ops:List Oper}{σ:St}{Q:Exit->St->Prop}(hm:P.follows .mixedOrders=true)(c:Region.lexB .any ops.toArray=true)(D:ops.all (λo=>Dq o||Cd o)=true)(hs:MZ ops 0 ops=true)
  (h:Ew P l n (ops.map (·.dst)) ops (Q .normal) σ):BT P l n B (.region id ops.toArray true) Q σ:=by
 intro a w y;obtain⟨s,H⟩:=σ;simp only[Region.lexB,Yc]at c;have v:=gQ (P:=P) (l:=l) (n:=n) (ops:=ops.toArray) (K:=Q .normal) (K0:=Q .normal) (m:=0) (fin:=false) (X:=λ_=>False) (λk d s H _ _ c h=>⟨by simpa[Region.lexFrom]using c,h⟩) (λe=>by cases e) (λi j F G q hi A=>by have:=jc hs q (by simpa using hi) (by simpa using A);simpa using this) ops 0 (Array.replicate ops.toArray.size false) s H D (λ_ _=>B8 _) (λj _ h=>by simp at h;simp[h]) (by simp) (DC.none _) (by simp) (by simpa using c.2) (by simpa using h);have f:R l n B ⟨s,H⟩ a {w with drawn:=w.drawn+1 }:=by obtain⟨m,S,x,C,g,z,p⟩:=y.un;obtain⟨t,u⟩:=x.drew (w':={w with drawn:=w.drawn+1 }) rfl rfl rfl rfl;exact R.keep t C g z p u
 refine wp_region_any hm (fy (Q:=Q .normal) (fin:=false) (X:=λ_=>False) (λI E w' b r=>⟨_,r,b⟩) (λe=>by cases e) (λe=>by cases e) _ _ _ a _ (DC.none _) f (by simpa using v))
theorem ZuP{id:Nat}{L:List Oper}{o:Oper}{σ:St}{QQ:Exit->Act->World->Prop}{X:St->Prop}(hm:P.follows .mixedOrders=true)(d:Region.lexB .any (L++[o]).toArray=true)(M:L.all (λo=>Dq o||Cd o)=true)(hs:MZ (L++[o]) 0 (L++[o])=true)
  (N:∀i,i<L.length->Waits (L++[o]).toArray L.length i) (h:Ew P l n ((L++[o]).map (·.dst)) L X σ) (I:∀σ a w,R l n B σ a w->X σ->wpList P (L++[o]).toArray QQ [o] a w) {a:Act} {w:World} (p:R l n B σ a w):(Code.region id (L++[o]).toArray true).wp P QQ a w:=by
 obtain⟨s,H⟩:=σ;simp only[Region.lexB,Yc]at d;have c:true=true->∀i,i+1<(L++[o]).toArray.size->Waits (L++[o]).toArray ((L++[o]).toArray.size-1) i:=λ_ i hi=>by have:=N i (by simpa using hi);simpa using this
 have E:=gQ (P:=P) (l:=l) (n:=n) (ops:=(L++[o]).toArray) (K:=λ_=>False) (K0:=X) (m:=1) (fin:=true) (X:=X) (λk b s H V hl d h=>by
   simp only[Region.lexFrom,Yc]at d;have D:k∈Region.ready .any (L++[o]).toArray b:=(by simpa using d.1.1);refine⟨λg=>(by rw[g]at D;cases D),λi hi=>?_⟩;obtain⟨g,T,f,_⟩:=mem_ready.1 hi;have z:=hl i g;have A:i<(L++[o]).toArray.size:=(G5.1 f).1;unfold F7;simp only[f];refine .inr (.inr ?_);exact And.intro (by first|rfl|trivial) (And.intro ae h)) c (λi j T W u hi v=>by
   have:=jc hs u (by simpa using hi) (by simpa using v);simpa using this) L 0 (Array.replicate (L++[o]).toArray.size false) s H M (λ_ _=>B8 _) (λj _ h=>by simp at h;simp[h]) (by simp) (DC.none _) (λj v=>by simp[Ys v]) (by simpa using d.2) (by simpa using h)
 have q:R l n B ⟨s,H⟩ a {w with drawn:=w.drawn+1 }:=by obtain⟨m,S,F,J,r,G,t⟩:=p.un;obtain⟨z,A⟩:=F.drew (w':={w with drawn:=w.drawn+1 }) rfl rfl rfl rfl;exact R.keep z J r G t A
 refine wp_region_any hm (fy (Q:=λ_=>False) (fin:=true) (X:=X) (λY U w' C y=>y.elim) c (λ_ σ a w p hx O x=>?_) _ _ _ a _ (DC.none _) q (by simpa using E));have e:O=o:=by simpa using x.symm
 subst e;exact I σ a w p hx
end
end Go.Eng
namespace Go.Eng
set_option linter.all false
open Go Go.RowKit
section
variable {P:Program} {T:Nat->Option TI} {r:Ren} {H H':Hp} {g:Option Bool} {a:AT} {K:AV->AT->Prop}
def KR(r:Ren)(K:AV->AT->Prop)(y:AV):Prop:=∃v a,y=ren r v/\K v a
theorem KR.mk{v:AV}{a:AT}(h:K v a):KR r K (ren r v):=⟨v,a,rfl,h⟩
theorem KR.mk'{v y:AV}{a:AT}(h:K v a)(e:y=ren r v):KR r K y:=⟨v,a,e,h⟩
theorem mU{t:TypeId}{i:TI}(hi:TIok P t i)(h:(i.str||i.elm.isSome)=true):Lq P t=true:=by
 rw[YG]at h;unfold Lq;rcases h with h|h
 ·have:=hi.str h;unfold Np at this;split at this
  ·rename_i a _;rw[a]
  ·cases this
 ·obtain⟨e,he⟩:=E1.1 h;obtain⟨b,c⟩:=e;have:=(FM (hi.elm _ he)).1;rw[this]
theorem gi{t:TypeId}{i:TI}(hi:TIok P t i)(y:Eg r H H')(p:∀b,g=some b->b=true){x:AV}(h:O7 i H x g a K):Fl P H' t (ren r x) (KR r K):=by
 unfold O7 at h;cases x<;>simp only at h<;>try exact h.elim
 case iptr cs off=>
  simp only[ren,Fl,hi.agg,hi.siz];split at h
  ·rename_i he;rw[he];split at h
   ·rename_i c d f;obtain⟨m,n⟩:=g8 _ _ _ f;have d:=Ym d;rw[DS]at n;exact⟨ae,ae,.mk' h (by rw[m,ren,IX])⟩
   grind
  ·rename_i he;rw[he];rw[CC]at h;simp only;split at h
   ·rename_i c o;simp only[o];exact .mk' h rfl
   grind
 case ptr k q off=>
  simp only[ren,Fl,hi.agg,hi.siz];split at h
  ·rename_i hl;obtain⟨s,u,z,A,v⟩:=y.at hl;refine⟨s,u,?_⟩;rw[v];split at h
   ·split at h
    ·rename_i he;rw[he];split at h
     ·rename_i c d f;obtain⟨m,n⟩:=g8 _ _ _ f;have d:=Ym d;rw[DS]at n;exact⟨ae,by rw[C5];omega,.mk' h (by rw[ren,FJ,Gq,m])⟩
     grind
    ·rename_i he;rw[he];rw[CC]at h;split at h
     ·rename_i c o;simp only[IT,o,Y0];exact .mk' h rfl
     grind
   ·split at h
    ·rename_i he;rw[he];split at h
     ·rename_i c B d f;have d:=Ym d;have f:=Yd f;have j:Er _ _ _:=BG p h.1;unfold Er at j;rw[f]at j;have w:=congrArg List.length j;rw[Yz,DS]at w;exact⟨ae,by rw[C5];omega,.mk' h.2 (by rw[ren,FJ,Gq,j])⟩
     grind
    ·rename_i he;rw[he];split at h
     ·rename_i x;have j:Er _ _ _:=BG p h.1;unfold Er at j;have e:(H k).cells[off]?=some x:=(by have:=congrArg (λl=>l[0]?) j;grind);simp only[IT,e,Y0];exact .mk' h.2 rfl
     grind
   grind
  ·grind
theorem OD{t:TypeId}{i:TI}(hi:TIok P t i){f:Nat}{x:Nat×Nat×Bool}(h:Bp i.fld f=some x):fld P t f=some (x.1,x.2.1)/\NL P t f=some x:=by rw[CC]at h;exact hi.fld f x h
theorem Ziz{t:TypeId}{i:TI}(hi:TIok P t i)(j:Eg r H H'){f:Nat}{x:AV}(h:V8 i H f x a K):FH P H' t f (ren r x) (KR r K):=by
 unfold V8 at h;split at h
 ·rename_i o n b k;have e:=(OD hi k).1;split at h
  ·rename_i c;have c:=Ym c;unfold FH;rw[e];split at h
   ·simp only[ren];exact⟨ae,.mk' h rfl⟩
   ·split at h
    ·rename_i hl;obtain⟨d,g,_⟩:=j.at hl;simp only[ren];exact⟨ae,d,g,.mk' h rfl⟩
    grind
   grind
  grind
 grind
theorem Zmy{t:TypeId}{i:TI}(hi:TIok P t i){f:Nat}{x:AV}(h:Xg i f x a K):FR P t f (ren r x) (KR r K):=by
 unfold Xg at h;rw[Zvj];split at h
 ·rename_i o n cs b;rw[(OD hi b).2];split at h
  ·rename_i d;have d:=Ym d;simp only[ren,Qj];exact⟨ae,.mk' h (by rw[ren,FJ,Gq])⟩
  grind
 ·rename_i o n cs b;rw[(OD hi b).2];rw[CC]at h;split at h
  ·rename_i c e;simp only[ren,Qj,IT,e,Y0];exact .mk' h rfl
  grind
 grind
theorem ZiC{t:TypeId}{i:TI}(hi:TIok P t i)(w:Eg r H H')(m:∀b,g=some b->b=true){x j:AV}(h:Wa i H x j g a K):E2 P H' t (ren r x) (ren r j) (KR r K):=by
 unfold Wa at h;split at h
 ·rename_i e sz k n he;have he:=hi.elm _ he;split at h
  ·rename_i y e' q;split at h
   ·rename_i c d;have c:=Yd c;have d:=Ym d;obtain⟨f,l⟩:Kq _ _ _:=BG m h.1;simp only[ren,E2,he];refine⟨f,?_⟩;rw[l];exact⟨c,ae,.mk' h.2 rfl⟩
   grind
  ·rename_i k q off len o B;split at h
   ·rename_i hl c d;have c:=Yd c;have d:=Ym d;obtain⟨p,s,z,u,A⟩:=w.at hl;obtain⟨f,l,v⟩:ND _ _ _ _ _:=BG m h.1;simp only[ren,E2,he];exact⟨f,l,p,s,by rw[u,c],ae,.mk' h.2 (by rw[ren,v])⟩
   grind
  grind
 grind
theorem ZmV{t:TypeId}{i:TI}(hi:TIok P t i)(m:∀b,g=some b->b=true){x j:AV}(h:WT i x j g a K):Gv P t (ren r x) (ren r j) (KR r K):=by
 unfold WT at h;split at h
 ·rename_i s k n b q;split at h
  ·rename_i d;have d:=Yd d;obtain⟨e,c,f,l⟩:Kg _ _ _:=BG m h.1;simp only[ren,Gv];refine⟨by rw[hi.kin];exact d,e,?_⟩;rw[f];exact .mk' h.2 (by rw[ren,l])
  grind
 grind
theorem ZqH{op:BinOp}{k:IntKind}{x y:Int}(c:∀b,g=some b->b=true)(h:UQ op k x y g a K):HC op k x y (KR r K):=by
 unfold UQ at h;cases op<;>simp only at h<;>try exact h.elim
 all_goals simp only[HC]
 case eql=>exact .mk' h rfl
 case neq=>exact .mk' h rfl
 case lss=>exact .mk' h rfl
 case leq=>exact .mk' h rfl
 case gtr=>exact .mk' h rfl
 case geq=>exact .mk' h rfl
 case add|sub|mul=>
  split at h
  ·have e:CQ _ _ _:=BG c h.1;unfold CQ at e;rw[e];exact .mk' h.2 rfl
  ·grind
 case and|or|xor=>
  split at h
  ·have e:BQ _ _:=BG c h.1;unfold BQ at e;rw[e];exact .mk' h.2 rfl
  ·grind
 case quo=>
  split at h
  ·have e:CQ _ _ _:=BG c h.2.1;unfold CQ at e;rw[e];exact⟨BG c h.1,.mk' h.2.2 rfl⟩
  ·grind
 case rem=>
  split at h
  ·have e:BQ _ _:=BG c h.2.1;unfold BQ at e;rw[e];exact⟨BG c h.1,.mk' h.2.2 rfl⟩
  ·grind
 case shr=>
  split at h
  ·have e:BQ _ _:=BG c h.2.1;unfold BQ at e;rw[e];exact⟨BG c h.1,.mk' h.2.2 rfl⟩
  ·grind
 case shl=>
  split at h
  ·have e:CQ _ _ _:=BG c h.2.1;unfold CQ at e;rw[e];exact⟨BG c h.1,.mk' h.2.2 rfl⟩
  ·grind
theorem Zqy{op:BinOp}{x y:ByteArray}(c:∀b,g=some b->b=true)(h:Uy op x y g a K):Hy op x y (KR r K):=by
 unfold Uy at h;cases op<;>simp only at h<;>try exact h.elim
 all_goals simp only[Hy]
 case add=>exact⟨BG c h.1,.mk' h.2 rfl⟩
 all_goals exact .mk' h rfl
theorem v6{neg:Bool}{x:AV}(i:Eg r H H')(h:Nr H neg x a K):Es H' neg (ren r x) (KR r K):=by
 unfold Nr at h;split at h
 ·simp only[ren,Es];exact λb=>.mk' (h b) rfl
 ·rename_i c;cases c with
  |nil=>simp only[ren,Es];exact λb=>.mk' (h b (λe=>absurd rfl e)) rfl
  |cons e c=>simp only[ren,Es];exact .mk' (h neg (λ_=>rfl)) rfl
 ·rename_i k q off n;split at h
  ·rename_i hl;obtain⟨f,g,_⟩:=i.at hl;simp only[ren,Es];exact⟨⟨f,g⟩,λd=>.mk' (h neg (λ_=>rfl)) rfl,λd b=>.mk' (h b (λe=>absurd d e)) rfl⟩
  grind
 grind
theorem wV:∀(ks:List Nat) (xs ys:List AV) (b:Bool),Fj ks xs ys=some b->Fj ks (Aq r xs) (Aq r ys)=some b
 |[],[],[],b,h=>by simpa[Aq]using h
 |k::ks,x::xs,y::ys,b,h=>by
  cases x<;>cases y<;>simp only[Fj]at h<;>try (cases h;done)
  rename_i x y;simp only[Aq,ren,Fj];split at h
  ·rename_i d e a c;simp only[a,wV ks xs ys _ c];exact h
  ·cases h
 |[],[],_::_,b,h=>by simp[Fj]at h
 |[],_::_,_,b,h=>by simp[Fj]at h
 |_::_,[],_,b,h=>by simp[Fj]at h
 |_::_,x::_,[],b,h=>by cases x<;>simp[Fj]at h
theorem ZFi{H:Hp}{op:BinOp}{t:TypeId}{a:Bool}{x:AV}{K:AV->Prop}:C8 P H op t a x .e0 K=(a=true/\kin P t=4/\match op with|.eql=>Es H false x K|.neq=>Es H true x K|_=>False):=by unfold C8;grind
theorem ZqR{t:TypeId}{i:TI}(hi:TIok P t i)(e:Eg r H H')(f:∀b,g=some b->b=true){op:BinOp}{j:Bool}{x y:AV}(h:Ui i H op j x y g a K):C8 P H' op t j (ren r x) (ren r y) (KR r K):=by
 unfold Ui at h;split at h
 ·split at h
  ·rename_i c;simp only[ren,C8];exact⟨ZLa c,ZqH f h⟩
  grind
 ·simp only[ren,C8];exact Zqy f h
 ·split at h
  ·rename_i c;simp only[ren,C8];refine⟨by rw[hi.kin];exact Yd c,?_⟩;split at h
   ·exact .mk' h rfl
   ·exact .mk' h rfl
   grind
  grind
 ·rename_i xs ys;split at h
  ·rename_i ks d;split at h
   ·rename_i b l;simp only[ren,C8,In,hi.eqt _ d,wV _ _ _ _ l];split at h
    ·exact .mk' h rfl
    ·exact .mk' h rfl
    grind
   grind
  grind
 ·rw[show ren r .e0=.e0 from by simp[ren],ZFi];split at h
  ·rename_i m k;refine⟨rfl,by rw[hi.kin];exact Yd k,?_⟩;split at h
   ·exact v6 e h
   ·exact v6 e h
   grind
  grind
 grind
theorem Ztz{op:UnOp}{x:AV}(c:∀b,g=some b->b=true)(h:ZM op x g a K):Fw op (ren r x) (KR r K):=by
 unfold ZM at h;split at h
 ·simp only[ren,Fw];exact .mk' h rfl
 ·split at h
  ·have e:CQ _ _ _:=BG c h.1;unfold CQ at e;simp only[ren,Fw];rw[e];exact .mk' h.2 rfl
  grind
 ·split at h
  ·have e:BQ _ _:=BG c h.1;unfold BQ at e;simp only[ren,Fw];rw[e];exact .mk' h.2 rfl
  grind
 grind
theorem Zos{s d:TypeId}{i j:TI}(hi:TIok P s i)(k:TIok P d j){x:AV}(l:∀b,g=some b->b=true)(h:Zl i j x g a K):FV P s d (ren r x) (KR r K):=by
 unfold Zl at h;split at h
 ·split at h
  ·rename_i q n p k' o m t c f;have e:CQ _ _ _:=BG l h.1;unfold CQ at e;simp only[ren,FV,hi.ik _ c,k.ik _ f];rw[e];exact .mk' h.2 rfl
  grind
 ·split at h
  ·rename_i c f;simp only[ren,FV,IQ (by rw[hi.kin];exact Yd c),IQ (by rw[k.kin];exact Yd f)];exact .mk' h rfl
  grind
 grind
theorem Oz{d l:Nat}{o a:Option AV}(h:Dy d o l)(b:a=o.map (ren r)):EV d a=some l:=by
 subst b;unfold Dy at h;split at h
 ·simp[EV,h]
 ·subst h;simp[EV,ren]
 grind
theorem Zno{t:TypeId}{i:TI}(hi:TIok P t i)(B:Eg r H H')(c:∀b,g=some b->b=true){x:AV}{lo q:Option AV}{v:Bool}(h:Xl i H x lo q v g a K):
  Ff P H' t (ren r x) (lo.map (ren r)) (q.map (ren r)) v (KR r K):=by
 unfold Xl at h;split at h
 ·split at h
  ·split at h
   ·rename_i C;obtain⟨m,n,o,p⟩:=h;have f:=Oz (r:=r) (BG c m) rfl;have j:=Oz (r:=r) (BG c n) rfl;have d:FD _ _ _:=BG c o;simp only[ren,Ff,f,j];exact⟨by rw[hi.kin];exact Yd C,trivial,d.1,d.2,.mk' p rfl⟩
   grind
  ·split at h
   ·rename_i e sz w D he;split at h
    ·rename_i l;have l:=Ym l;obtain⟨m,n,o,p,u⟩:=h;have f:=Oz (r:=r) (BG c m) rfl;have j:=Oz (r:=r) (BG c n) rfl;have d:FD _ _ _:=BG c o;have k:PG _ _ _ _ _:=BG c p;simp only[ren,Ff,f,j,hi.elm _ he];exact⟨trivial,ae,k.1,d.1,d.2,.mk' u (by rw[ren,k.2])⟩
    grind
   grind
  ·split at h
   ·rename_i e sz I G D he hl;split at h
    ·rename_i l s;have l:=Ym l;obtain⟨y,z,E,A,F⟩:=B.at hl;obtain⟨m,n,o,p,u⟩:=h;have f:=Oz (r:=r) (BG c m) rfl;have j:=Oz (r:=r) (BG c n) rfl;have d:FD _ _ _:=BG c o;have k:ai _ _ _ _ _:=BG c p;simp only[ren,Ff,f,j,hi.elm _ he];exact⟨trivial,y,z,ae,by rw[A];exact Yd s,d.1,d.2,.mk' u (by rw[ren,k.1,k.2])⟩
    grind
   grind
  grind
 grind
theorem Zq1{t:TypeId}{i:TI}(hi:TIok P t i)(k:Eg r H H')(d:∀b,g=some b->b=true){x:AV}(h:U1 i H x g a K):Ez P H' t (ren r x) (KR r K):=by
 unfold U1 at h;split at h
 ·split at h
  ·rename_i c;have e:BQ _ _:=BG d h.1;unfold BQ at e;simp only[ren,Ez,hi.kin];exact⟨Yd c,.mk' h.2 (by rw[ren,e])⟩
  grind
 ·split at h
  ·rename_i c;have e:BQ _ _:=BG d h.1;unfold BQ at e;simp only[ren,Ez,hi.kin];exact⟨Yd c,.mk' h.2 (by rw[ren,e])⟩
  grind
 ·split at h
  ·rename_i c;have e:BQ _ _:=BG d h.1;unfold BQ at e;simp only[ren,Ez,hi.kin];exact⟨Yd c,.mk' h.2 (by rw[ren,e])⟩
  grind
 ·split at h
  ·rename_i c hl;have e:BQ _ _:=BG d h.1;unfold BQ at e;obtain⟨f,j,_⟩:=k.at hl;simp only[ren,Ez,hi.kin];exact⟨Yd c,f,j,.mk' h.2 (by rw[ren,e])⟩
  grind
 grind
theorem ZqS(a:Eg r H H'){x:AV}{y:Bool×List (List D)}(h:i3 H x=some y):OL H' (ren r x)=some y:=by
 unfold i3 at h;split at h
 ·simp only[ren,OL];exact h
 ·split at h
  ·rename_i k g _ _ q b hl he;obtain⟨c,d,e,_,_⟩:=a.at hl;simp only[ren,OL];grind
  ·cases h
 ·cases h
theorem zw(q:Bool)(ds:List D):ren r (Pj q ds)=Pj q ds:=by unfold Pj;split<;>simp[ren,IX]
theorem ZDy(a q:Bool)(ds:List D)(ok:Bool):ren r (Ph a q ds ok)=Ph a q ds ok:=by
 unfold Ph;cases a
 ·exact zw q ds
 ·simp only[ren,Aq,zw]
theorem ZnM{t:TypeId}{i:TI}(hi:TIok P t i)(k:Eg r H H')(l:∀b,g=some b->b=true){x y:AV}{c:Bool}(h:XU i H x y c g a K):Hs P H' t (ren r x) (ren r y) c (KR r K):=by
 unfold XU at h;split at h
 ·rename_i q z p o s ok vs n f j;split at h
  ·rename_i m;obtain⟨d,e⟩:Sn _ _ _ _ _:=BG l h.1;simp only[Hs,hi.mp _ f,ZqS k j,ren];exact⟨ZJ1 m,.mk' h.2 (by rw[d,e,ZDy])⟩
  grind
 grind
theorem QY{x:AV}{vs:List AV}(h:Dp x=some vs)(hx:∀f xs ys,x≠.fn (.yield f) xs ys):Dp (ren r x)=some (Aq r vs):=by
 cases x<;>simp only[Dp,Yo]at h<;>try (cases h;done)
 case fn f xs ys=>
  subst h;cases f with
  |yield i=>exact absurd rfl (hx i xs ys)
  |_=>simp[ren,Aq,Dp]
 all_goals(subst h;simp[ren,Aq,Dp])
theorem Rk{x:AV}(h:Ks x=true):∀f xs ys,x≠.fn (.yield f) xs ys:=by rintro f xs ys rfl;cases h
theorem ZKi{t:TypeId}{i:TI}(hi:TIok P t i){f o n:Nat}(h:kh i f=some (o,n)):fld P t f=some (o,n):=by
 unfold kh at h;split at h
 ·rename_i d c b a;simp only[Yo,HM]at h;obtain⟨rfl,rfl⟩:=h;exact(OD hi a).1
 ·cases h
theorem v5{t:TypeId}{i:TI}(hi:TIok P t i):∀(ps:List (Nat×AV)) (z cs:List AV),(∀p∈ps,Ks p.2=true)->R7 i z ps=some cs->CV (fld P t) (Aq r z) (ps.map λp=>(p.1,ren r p.2))=some (Aq r cs)
 |[],z,cs,_,h=>by simp only[R7,Yo]at h;subst h;simp[CV]
 |(f,v)::ps,z,cs,e,h=>by
  simp only[R7]at h;split at h
  ·rename_i off size vs a g;split at h
   ·rename_i c d;have c:=Yd c;have d:=Ym d;have b:=QY (r:=r) g (Rk (e (f,v) (YH ..)));simp only[YY,CV,ZKi hi a,b,C5];rw[Yh ae];have:=v5 hi ps _ cs (λp a=>e p (YI _ a)) h;rw[<-this];simp only[HX,Gq,FJ]
   ·cases h
  ·cases h
theorem Zmt{t:TypeId}{i:TI}(hi:TIok P t i){parts:List (Nat×AV)}(e:∀p∈parts,Ks p.2=true)(f:∀z,i.zer=some z->Aq r z=z)(h:W9 i parts a K):
  Gu P t (parts.map λp=>(p.1,ren r p.2)) (KR r K):=by
 unfold W9 at h;split at h
 ·rename_i z c b;split at h
  ·rename_i cs d;have:=v5 (r:=r) hi _ _ _ e d;unfold Gu;rw[hi.zer _ b];rw[f z b]at this;simp only[this];exact⟨hi.str c,.mk' h rfl⟩
  grind
 grind
theorem Zyd{x:AV}(h:x.flat=true):ren r x=x:=by cases x<;>first|(simp[ren];done)|cases h
theorem Mi{z:List AV}(h:z.all AV.flat=true):Aq r z=z:=by
 induction z with
 |nil=>simp[Aq]
 |cons x z a=>
  simp only[J6,Yc]at h;rw[Aq,Zyd h.1,a h.2]
theorem vU{c x y:Operand}{ρ d:Operand->AV}{t:Bool}(e:ρ c=.d (.bool t))(b:d c=ren r (ρ c))(hx:t=true->d x=ren r (ρ x))(hy:t=false->d y=ren r (ρ y))(h:tV T H (.pick c x y) ρ g a K):
  A8 P H' (.pick c x y) d (KR r K):=by
 simp only[tV,e]at h;rw[e]at b;simp only[ren]at b;simp only[A8,b];rw[ZAn]at h;cases t
 ·exact .mk' h (by simp[hy rfl])
 ·exact .mk' h (by simp[hx rfl])
theorem iu{ρ a:Operand->AV}{xs:List Operand}(h:∀x∈xs,a x=ren r (ρ x)):xs.map a=Aq r (xs.map ρ):=by rw[Gt,J8];exact El h
theorem wX{ρ a:Operand->AV}{o:Option Operand}(h:∀x,o=some x->a x=ren r (ρ x)):o.map a=(o.map ρ).map (ren r):=by
 cases o with
 |none=>rfl
 |some x=>simp[h x rfl]
theorem wU{r:Ren}{b:Bool}{x y:AV}{a:AT}{K:AV->AT->Prop}(h:EZ b x y (λv=>K v a)):EZ b (ren r x) (ren r y) (KR r K):=by
 unfold EZ at h;split at h
 ·simp only[ren,EZ];exact .mk' h rfl
 grind
theorem Zw8(n:Bi P T)(C:Eg r H H')(A:∀b,g=some b->b=true){op:Op}{ρ w:Operand->AV}(Z:∀x∈op.operands,w x=ren r (ρ x))(h:tV T H op ρ g a K):A8 P H' op w (KR r K):=by
 have get:∀{x:Operand},x∈op.operands->w x=ren r (ρ x):=λhx=>Z _ hx;cases op<;>simp only[tV]at h<;>try exact h.elim
 case move x=>exact .mk' h (get (by simp[Op.operands]))
 case assign x=>exact .mk' h (get (by simp[Op.operands]))
 case pick c x y=>
  split at h
  ·rename_i t l;exact vU (a:=a) (g:=g) (T:=T) (H:=H) l (get (by simp[Op.operands])) (λ_=>get (by simp[Op.operands])) (λ_=>get (by simp[Op.operands])) (by simp only[tV,l];exact h)
  ·grind
 case load t x=>
  split at h
  ·rename_i i hi;simp only[A8];rw[get (x:=x) (by simp[Op.operands])];exact gi (n _ _ hi) C A h
  ·grind
 case fieldAddr t x f=>
  split at h
  ·rename_i i hi;simp only[A8];rw[get (x:=x) (by simp[Op.operands])];exact Ziz (n _ _ hi) C h
  ·grind
 case field t x f=>
  split at h
  ·rename_i i hi;simp only[A8];rw[get (x:=x) (by simp[Op.operands])];exact Zmy (n _ _ hi) h
  ·grind
 case indexAddr t x j=>
  split at h
  ·rename_i i hi;simp only[A8];rw[get (x:=x) (by simp[Op.operands]),get (x:=j) (by simp[Op.operands])];exact ZiC (n _ _ hi) C A h
  ·grind
 case index t x j=>
  split at h
  ·rename_i i hi;simp only[A8];rw[get (x:=x) (by simp[Op.operands]),get (x:=j) (by simp[Op.operands])];exact ZmV (n _ _ hi) A h
  ·grind
 case makeInterface t x=>
  split at h
  case h_2=>exact h.elim
  rename_i i hi;have E:(i.str||i.elm.isSome)=true->Lq P t=true:=mU (n _ _ hi);simp only[A8];rw[get (x:=x) (by simp[Op.operands])];split at h
  ·rename_i xs D hx;rw[hx];simp only[ren];split at h
   case h_2=>exact h.elim
   rename_i ds N;have e:=WH N;subst e;rw[IX,N];exact⟨E D,.mk' h rfl⟩
  ·rename_i y D hx;rw[hx];simp only[ren];exact⟨E D,.mk' h rfl⟩
  ·exact h.elim
 case typeAssert x u t ok=>
  split at h
  case h_2=>exact h.elim
  rename_i i hi;have E:(i.str||i.elm.isSome)=true->Lq P t=true:=mU (n _ _ hi);simp only[A8];rw[get (x:=x) (by simp[Op.operands])];split at h
  case h_2=>exact h.elim
  rename_i u ds q D hx;rw[hx];simp only[ren];split at h
  case h_2=>exact h.elim
  rename_i v X F;rw[F];have G:ren r v=v:=by
   cases q with
   |true=>cases F;simp only[ren,IX]
   |false=>
    match ds,F with
    |[d],F=>cases F;simp only[ren]
  refine⟨E D,Yd X,.mk' h ?_⟩;cases ok with
  |true=>simp only[cond,ren,Aq,G]
  |false=>exact G.symm
 case extract x j=>
  simp only[A8];rw[get (x:=x) (by simp[Op.operands])];split at h
  ·rename_i vs hx;rw[hx];simp only[ren,IT];rw[CC]at h;split at h
   ·rename_i y hy;rw[hy];exact .mk' h rfl
   grind
  ·grind
 case binOp o t x y u=>
  split at h
  ·rename_i i hi;simp only[A8];rw[get (x:=x) (by simp[Op.operands]),get (x:=y) (by simp[Op.operands])];exact ZqR (n _ _ hi) C A h
  ·grind
 case unOp o t x=>simp only[A8];rw[get (x:=x) (by simp[Op.operands])];exact Ztz A h
 case nilCheck x=>
  split at h
  ·rename_i k q off hx;split at h
   ·rename_i hl;simp only[A8];rw[get (x:=x) (by simp[Op.operands]),hx];obtain⟨O,Q,_,_,_⟩:=C.at hl;simp only[ren,Ku];exact⟨O.symm▸rfl,Q,.mk' h (by simp[ren])⟩
   grind
  ·rename_i cs off hx;simp only[A8];rw[get (x:=x) (by simp[Op.operands]),hx];simp only[ren,Ku];exact .mk' h (by simp[ren])
  ·grind
 case convert s d x=>
  split at h
  ·rename_i i j hi V;simp only[A8];rw[get (x:=x) (by simp[Op.operands])];exact Zos (n _ _ hi) (n _ _ V) A h
  ·grind
 case makeFunc fn first B=>
  have m:first.toList.map w=Aq r (first.toList.map ρ):=iu λx hx=>get (by simp only[Op.operands,PZ];exact .inl (by simpa using hx))
  have I:B.toList.map w=Aq r (B.toList.map ρ):=iu λx hx=>get (by simp only[Op.operands,PZ];exact .inr (by simpa using hx));simp only[A8];rw[m,I];split at h
  ·grind
  ·rename_i L;refine .mk' h ?_;cases fn<;>first|exact absurd rfl (L _)|simp[ren]
 case slice t x lo hi mx=>
  split at h
  ·rename_i i J;simp only[A8];rw[get (x:=x) (by simp[Op.operands]),wX (o:=lo) (λy hy=>get (by subst hy;simp[Op.operands])),wX (o:=hi) (λy hy=>get (by subst hy;simp[Op.operands]))];exact Zno (n _ _ J) C A h
  ·grind
 case build t parts=>
  split at h
  ·rename_i i hi E;simp only[A8];have e:(parts.toList.map λp=>(p.1,w p.2))=(parts.toList.map λp=>(p.1,ρ p.2)).map λp=>(p.1,ren r p.2):=(by rw[J8];refine El λp M=>?_;simp only[Function.comp];rw[get (x:=p.2) (by simp only[Op.operands,P0,YV];exact⟨p,M,rfl⟩)]);rw[e];refine Zmt (n _ _ hi) (λp M=>?_) (λz Y=>Mi ((n _ _ hi).flt z Y)) h;obtain⟨q,hq,rfl⟩:=YV.1 M;grind
  ·grind
 case lookup t x y ck=>
  split at h
  ·rename_i i hi;simp only[A8];rw[get (x:=x) (by simp[Op.operands]),get (x:=y) (by simp[Op.operands])];exact ZnM (n _ _ hi) C A h
  ·grind
 case call c=>
  split at h
  ·rename_i x t l hx W;split at h
   ·rename_i i hi;have m:c.args=#[x]:=Dz (by simpa using hx);have I:c.argTypes=#[t]:=Dz (by simpa using W);simp only[A8,l,m,I];show 1=1/\Ez P H' t (w x) (KR r K);rw[get (x:=x) (by simp[Op.operands,Call.operands,l,m])];exact⟨rfl,Zq1 (n _ _ hi) C A h⟩
   grind
  ·rename_i x y l hx;have m:c.args=#[x,y]:=Dz (by simpa using hx);simp only[A8,l,m];show EZ false (w x) (w y) (KR r K);rw[get (x:=x) (by simp[Op.operands,Call.operands,l,m]),get (x:=y) (by simp[Op.operands,Call.operands,l,m])];exact wU h
  ·rename_i x y l hx;have m:c.args=#[x,y]:=Dz (by simpa using hx);simp only[A8,l,m];show EZ true (w x) (w y) (KR r K);rw[get (x:=x) (by simp[Op.operands,Call.operands,l,m]),get (x:=y) (by simp[Op.operands,Call.operands,l,m])];exact wU h
  ·rename_i x y z l hx;have m:c.args=#[x,y,z]:=Dz (by simpa using hx);simp only[A8,l,m];show Ie true (w x) (w y) (w z) (KR r K);rw[get (x:=x) (by simp[Op.operands,Call.operands,l,m]),get (x:=y) (by simp[Op.operands,Call.operands,l,m]),get (x:=z) (by simp[Op.operands,Call.operands,l,m])];unfold Ie at h;split at h
   ·rename_i R S U;rw[R,S,U];simp only[ren,Ie];exact .mk' h rfl
   grind
  ·grind
end
abbrev Dj:=List (Nat×Bool)
abbrev BP:=List (Nat×Dj)
def lk:BP->Nat->Dj
 |[],_=>[]
 |(i,c)::r,j=>match Nat.beq i j with|true=>c|false=>lk r j
def Qv(t:Bool):Bool->Bool
 |true=>t
 |false=>!t
theorem gM{t b:Bool}:Qv t b=true↔t=b:=by cases t<;>cases b<;>simp[Qv]
def LU:Dj->Dj->Bool
 |[],[]=>true
 |(i,a)::r,(j,b)::q=>Nat.beq i j&&Qv a b&&LU r q
 |_,_=>false
theorem iJ:∀{a b:Dj},LU a b=true->a=b
 |[],[],_=>rfl
 |(i,a)::r,(j,b)::q,h=>by simp only[LU,Yc]at h;rw[Yd h.1.1,gM.1 h.1.2,iJ h.2]
 |[],_::_,h=>by simp[LU]at h
 |_::_,[],h=>by simp[LU]at h
def UM(a:Dj):Dj->Bool
 |[]=>LU a []
 |q::b=>LU a (q::b)||UM a b
theorem xL{a:Dj}:∀{b:Dj},UM a b=true->∀q∈a,q∈b
 |[],h,q,c=>by rw[iJ h]at c;exact c
 |p::b,h,q,c=>by
  simp only[UM,YG]at h;rcases h with h|h
  ·rw[iJ h]at c;exact c
  ·exact YI _ (xL h q c)
def Dn(s:Nat->AV)(c:Dj):Prop:=∀q∈c,s q.1=.d (.bool q.2)
def Hm(s:Nat->AV):Dj->Option Bool
 |[]=>some true
 |[(d,b)]=>match s d with|.d (.bool t)=>some (Qv t b)|_=>none
 |(d,b)::r=>match s d,Hm s r with|.d (.bool t),some c=>some (c&&Qv t b)|_,_=>none
theorem KP{s:Nat->AV}:∀{c:Dj} {g:Bool},Hm s c=some g->(g=true↔Dn s c)
 |[],g,h=>by simp only[Hm,Yo]at h;subst h;simp[Dn]
 |[(d,b)],g,h=>by
  simp only[Hm]at h;split at h
  ·rename_i t f;simp only[Yo]at h;subst h;rw[gM];simp[Dn,f]
  ·cases h
 |(d,b)::q::r,g,h=>by
  simp only[Hm]at h;split at h
  ·rename_i t c f i;simp only[Yo]at h;subst h;have j:=KP i;rw[Yc,j,gM];constructor
   ·rintro⟨e,rfl⟩ p a;rcases Yx.1 a with rfl|a
    ·exact f
    ·exact e p a
   ·intro e;refine⟨λp a=>e p (YI _ a),?_⟩;have:=e (d,b) (YH ..);grind
  ·cases h
def ML(e:Nat)(c:Dj):Bool:=c.all λq=>!Nat.beq q.1 e
def fresh(e:Nat)(env:BP):Bool:=env.all λp=>ML e p.2
theorem w8{s:Nat->AV}{e:Nat}{v:AV}{c:Dj}(h:ML e c=true):Dn (upd s e v) c↔Dn s c:=by
 have key:∀q∈c,upd s e v q.1=s q.1:=λq a=>by have:=Yv.1 h q a;unfold upd;rw[Yh];intro he;subst he;simp at this
 constructor
 ·exact λh q a=>(key q a)▸h q a
 ·exact λh q a=>(key q a).trans (h q a)
theorem xN{e:Nat}:∀{env:BP},fresh e env=true->∀j,ML e (lk env j)=true
 |[],_,j=>rfl
 |(i,c)::r,h,j=>by
  simp only[fresh,J6,Yc]at h;simp only[lk];split
  ·exact h.1
  ·exact xN h.2 j
theorem ip{env:BP}{e:Nat}{c:Dj}(j:Nat):lk ((e,c)::env) j=if j=e then c else lk env j:=by
 simp only[lk];by_cases h:j=e
 ·subst h;simp
 ·rw[Yh h];split
  ·rename_i a;exact absurd (Yd a).symm h
  ·rfl
def JP(env:BP)(c:Dj):Operand->Bool
 |.tmp t=>UM (lk env t) c
 |_=>true
def CE(env:BP)(c:Dj):Op->Bool
 |.pick (.tmp d) x y=>JP env c (.tmp d)&&JP env ((d,true)::c) x&&JP env ((d,false)::c) y
 |op=>op.operands.toList.all (JP env c)
structure RenOk (r:Ren) (l outs:Nat):Prop where
 own:∀d,r.κ (1,d)=(l+1,d)
 out:∀i,i<outs->(r.κ (0,i)).1<=l
 inj:∀i j,i<outs->j<outs->r.κ (0,i)=r.κ (0,j)->i=j
 no:∀k,r.no k->∃i,i<outs/\r.κ (0,i)=k
structure RG (r:Ren) (l outs:Nat) (env:BP) (τ σ:St):Prop where
 s:∀j,(Dn τ.s (lk env j)->σ.s j=ren r (τ.s j))/\(¬Dn τ.s (lk env j)->σ.s j=.tup [])
 h:Eg r τ.H σ.H
 g:∀d,(σ.H (l+1,d)).g=r.γ (1,d)+(τ.H (1,d)).g
 go:∀i,i<outs->(σ.H (r.κ (0,i))).g=r.γ (0,i)+(τ.H (0,i)).g
 k:∀k,(τ.H k).live=true->k.1=1\/(k.1=0/\k.2<outs)
 o:∀k:Ad,k.1<=l->¬r.no k->σ.H k=r.H0 k
def H9(P:Program)(l:Nat)(r:Ren)(f:FuncId)(xs:List AV)(c:List (Ad×Blk))(x:AV):Prop:=
 ∀a,(∀p∈c,p.2.live=true->a (r.κ p.1)=AP r p.1 p.2)->(∀k:Ad,k.1<=l->¬r.no k->a k=r.H0 k)->Zdm P f (l+1) (Aq r xs) a (λy b=>y=ren r x/\b=a)
def OI(P:Program)(l:Nat)(r:Ren)(i:Nat)(xs:List AV)(d:List (Ad×Blk))(x:AV):Prop:=
 ∃f first a,r.θ i=.fn (.func f) first a/\∀b,(∀p∈d,p.2.live=true->b (r.κ p.1)=AP r p.1 p.2)->(∀k:Ad,k.1<=l->¬r.no k->b k=r.H0 k)->Zdm P f (l+1) (first++Aq r xs++a) b (λy c=>y=ren r x/\c=b)
def T7(P:Program)(l:Nat)(r:Ren)(H:Hp)(f:AV)(xs:List AV)(g:Option Bool)(a:AT)(K:AV->AT->Prop):Prop:=
 match f,a with
 |.fn (.func i) first b,.call x ks a=>Bq g (H9 P l r i (first++xs++b) (ks.map λk=>(k,H k)) x)/\K x a
 |.fn (.yield i) _ _,.call x ks a=>Bq g (OI P l r i xs (ks.map λk=>(k,H k)) x)/\K x a
 |_,_=>False
def ZD(T:Nat->Option TI)(τ:St)(t:TypeId)(len:Nat)(parts:List (Nat×Operand))(a:AT)(K:AV->AT->Prop):Prop:=
 match T t with
 |some i=>(match i.elm with
  |some (e,sz)=>(match Nat.ble 1 sz,len with
   |true,0=>(match parts with|[]=>K .e0 a|_=>False)
   |true,len+1=>(match T e,Nat.ble ((len+1)*sz) 16777216 with
    |some j,true=>(match j.zer with
     |some z=>(match Nat.beq z.length sz,GP sz 0 (parts.map λp=>(p.1,ev τ.s p.2))with
      |true,some es=>(match Nat.beq es.length (len+1)with|true=>K (.d (.list es)) a|false=>False)
      |_,_=>False)
     |none=>False)
    |_,_=>False)
   |_,_=>False)
  |none=>False)
 |none=>False
def pV(P:Program)(T:Nat->Option TI)(l:Nat)(r:Ren)(τ:St)(op:Op)(g:Option Bool)(a:AT)(K:AV->AT->Prop):Prop:=
 match op with
 |.call c=>match c.callee with
  |.value f=>T7 P l r τ.H (ev τ.s f) (c.args.toList.map (ev τ.s)) g a K
  |_=>tV T τ.H op (ev τ.s) g a K
 |.buildSlice t len parts=>ZD T τ t len parts.toList a K
 |op=>tV T τ.H op (ev τ.s) g a K
def FX(n d:Nat)(K:St->AT->Prop)(τ:St)(v:AV)(a:AT):Prop:=
 match Nat.ble (d+1) n with
 |true=>K ⟨upd τ.s d v,τ.H⟩ a
 |false=>False
section
variable {P:Program} {T:Nat->Option TI} {r:Ren} {l n outs:Nat} {env:BP} {τ σ:St} {g:Option Bool} {a:AT} {c:Dj}
theorem ZLn(v:Value):ren r (cv v)=cv v:=by unfold cv;split<;>simp[ren]
theorem My(h:RG r l outs env τ σ)(hs:Dn τ.s c){x:Operand}(hx:JP env c x=true):ev σ.s x=ren r (ev τ.s x):=by
 cases x with
 |tmp t=>exact(h.s t).1 λq a=>hs q (xL hx q a)
 |const v=>exact(ZLn v).symm
 |global g=>simp[ev,ren]
 |func f=>simp[ev,ren,Aq]
theorem Hf(h:RG r l outs env τ σ)(hs:Dn τ.s c){op:Op}(hx:op.operands.toList.all (JP env c)=true):∀x∈op.operands,ev σ.s x=ren r (ev τ.s x):=
 λx hm=>My h hs (Yv.1 hx x (by simpa using hm))
theorem mY(s:Bi P T)(h:RG r l outs env τ σ)(hs:Dn τ.s c)(u:∀b,g=some b->b=true){op:Op}(hx:CE env c op=true){K:AV->AT->Prop}(i:tV T τ.H op (ev τ.s) g a K):
  A8 P σ.H op (ev σ.s) (KR r K):=by
 unfold CE at hx;split at hx
 ·rename_i d x y;simp only[Yc]at hx;obtain⟨⟨n,o⟩,p⟩:=hx;have f:=i;simp only[tV]at f;split at f
  ·rename_i t k;have m:=My h hs n;refine vU (T:=T) (H:=τ.H) (g:=g) (a:=a) k m (λe=>My h (c:=(d,true)::c) ?_ o) (λe=>My h (c:=(d,false)::c) ?_ p) i
   all_goals
    subst e;intro q j;rcases Yx.1 j with rfl|j
    ·exact k
    ·exact hs q j
  grind
 ·exact Zw8 s h.h u (Hf h hs hx) i
theorem gn(h:RG r l outs env τ σ)(hs:Dn τ.s c)(s:∀b,g=some b->b=true){cl:Call}{f:Operand}(o:cl.callee=.value f)(hx:CE env c (.call cl)=true){K:AV->AT->Prop}
  (e:T7 P l r τ.H (ev τ.s f) (cl.args.toList.map (ev τ.s)) g a K):
  ∃i first d x j,ev σ.s f=.fn (.func i) first d/\Zdm P i (l+1) (first++cl.args.toList.map (ev σ.s)++d) σ.H (λy t=>y=ren r x/\t=σ.H)/\K x j:=by
 have hx:(Op.call cl).operands.toList.all (JP env c)=true:=hx;have q:=Hf h hs hx f (by simp[Op.operands,Call.operands,o]);have m:cl.args.toList.map (ev σ.s)=Aq r (cl.args.toList.map (ev τ.s)):=iu λx hm=>Hf h hs hx x (by simp only[Op.operands,Call.operands,o,PZ];exact .inr (by simpa using hm));have n:∀ks:List Ad,∀p∈ks.map λk=>(k,τ.H k),p.2.live=true->σ.H (r.κ p.1)=AP r p.1 p.2:=λks p e hl=>by obtain⟨k,A,rfl⟩:=YV.1 e;exact h.h k hl
 unfold T7 at e;split at e
 ·rename_i i first d x ks j he
  have v:H9 _ _ _ _ _ _ _:=BG s e.1;refine⟨i,Aq r first,Aq r d,x,j,by rw[q,he];simp[ren],?_,e.2⟩;rw[m,<-HX,<-HX];exact v σ.H (n ks) h.o
 ·rename_i i xs ys x ks j he;obtain⟨u,first,d,w,z⟩:OI _ _ _ _ _ _ _:=BG s e.1;refine⟨u,first,d,x,j,by rw[q,he];simp[ren,w],?_,e.2⟩;rw[m];exact z σ.H (n ks) h.o
 grind
theorem RG.put(h:RG r l outs env τ σ){e:Nat}{ch:Dj}(b:fresh e env=true)(c:ML e ch=true){v:AV}{y:AV}(hy:Dn τ.s ch->y=ren r v)(d:¬Dn τ.s ch->y=.tup []):
  RG r l outs ((e,ch)::env) ⟨upd τ.s e v,τ.H⟩ ⟨upd σ.s e y,σ.H⟩:=by
 refine⟨λj=>?_,h.h,h.g,h.go,h.k,h.o⟩;simp only;rw[ip];by_cases a:j=e
 ·subst a;rw[Yi rfl,w8 c];simp only[upd,Yq];grind
 ·rw[Yh a,w8 (xN b j)];simp only[upd,Yh a];exact h.s j
end
section
variable {P:Program} {l n:Nat} {H:Hp} {m:Mu} {S:Nat->Prop} {w w':World} {s:Nat->AV} {a:Act}
theorem Ok.allocO(h:Ok l H m S w)(k:Ad)(P:k.1<=l)(b:Blk)(L:b.e.isO=true)(u:b.cells=[])(O:(H k).g<b.g)(o:Obj)(D:w'.heap=w.heap.push o)
  (K:Kr w' S w.heap.size b.e) (G:w'.os=w.os) (I:w'.tape=w.tape) (J:w'.output=w.output):
  Ok l (updH H k b) (Bf m k ⟨w.heap.size,0,0⟩) S w'/\Ext l H m S w (updH H k b) (Bf m k ⟨w.heap.size,0,0⟩) S w':=by
 have d:∀i,i<w.heap.size->w'.heap[i]?=w.heap[i]?:=λi hi=>by rw[D,Ng,Yh ae]
 have j:Ext l H m S w (updH H k b) (Bf m k ⟨w.heap.size,0,0⟩) S w':=by
  refine⟨λ_ h=>h,λi hi=>d i (h.sub i hi),λq a=>?_,λq a y hl=>?_,G,I,J,by rw[D];simp⟩
  ·by_cases e:q=k
   ·subst e;rw[AX];omega
   ·rw[AI _ _ e];exact Yf _
  ·by_cases e:q=k
   ·subst e;rw[AX]at y;omega
   ·rw[AI _ _ e]at hl⊢;rw[A2 _ _ e];exact⟨hl,rfl,rfl⟩
 have B:∀q:Ad,q.1<=l->(H q).live=true->(m q).cap≠0->(m q).b<w.heap.size:=λq a hl n=>by obtain⟨C,t,_⟩:=h.blk q a hl n;grind
 have A:∀q:Ad,q.1<=l->(H q).live=true->(H q).e.isO=true->(m q).b<w.heap.size:=λq a hl n=>by obtain⟨C,t,_⟩:=(h.mp.o q a hl).at n;grind
 refine⟨⟨λi hi=>?_,λq a hl c=>?_,λq a hl c=>?_,λq s a r hl f c g heq=>?_,λq a hl c=>?_,
  ⟨λq a hl=>?_,λq a hl he=>?_,λq s a r hl f he p heq=>?_⟩⟩,j⟩
 ·have:=h.sub i hi;rw[D];simp;omega
 ·by_cases e:q=k
  ·subst e;rw[AX];exact u
  ·rw[AI _ _ e]at hl⊢;rw[A2 _ _ e]at c;exact h.empty q a hl c
 ·by_cases e:q=k
  ·subst e;rw[A4]at c;exact absurd rfl c
  ·rw[AI _ _ e]at hl;rw[A2 _ _ e]at c⊢;exact h.fresh q a hl c
 ·by_cases e:q=k
  ·subst e;rw[A4]at c;exact absurd rfl c
  ·by_cases e':s=k
   ·subst e';rw[A4]at g;exact absurd rfl g
   ·rw[A2 _ _ e,A2 _ _ e']at heq;rw[AI _ _ e]at hl;rw[AI _ _ e']at f;rw[A2 _ _ e]at c;rw[A2 _ _ e']at g;exact h.inj q s a r hl f c g heq
 ·by_cases e:q=k
  ·subst e;rw[A4]at c;exact absurd rfl c
  ·rw[AI _ _ e]at hl⊢;rw[A2 _ _ e]at c⊢;obtain⟨C,t,hs,z,hx⟩:=h.blk q a hl c;refine⟨C,by rw[d _ (B q a hl c)];exact t,hs,z,λi x v hi N=>?_⟩;obtain⟨E,F⟩:=hx i x v hi N;exact⟨E,F.ext j a⟩
 ·by_cases e:q=k
  ·subst e;rw[AX,A4];exact K
  ·rw[AI _ _ e]at hl⊢;rw[A2 _ _ e];exact(h.mp.o q a hl).mono (λ_ h=>h) (λi hi=>d i (h.sub i hi)) (λM=>d _ (A q a hl M))
 ·by_cases e:q=k
  ·subst e;rw[A4];exact⟨⟨rfl,rfl⟩,λhs=>by have:=h.sub _ hs;simp at this⟩
  ·rw[AI _ _ e]at hl he;rw[A2 _ _ e];exact h.mp.c q a hl he
 ·by_cases e:q=k<;>by_cases e':s=k
  ·grind
  ·subst e;rw[A4,A2 _ _ e']at heq;rw[AI _ _ e']at f p;grind
  ·subst e';rw[A4,A2 _ _ e]at heq;rw[AI _ _ e]at hl he;grind
  ·rw[A2 _ _ e,A2 _ _ e']at heq;rw[AI _ _ e]at hl he;rw[AI _ _ e']at f p;exact h.mp.i q s a r hl f he p heq
theorem Ok.writeO(h:Ok l H m S w)(k:Ad)(y:k.1<=l)(hl:(H k).live=true)(t:(H k).e.isO=true)(e':EK)(n:e'.isO=true)(o:Obj)
  (F:∀b,w'.heap[b]?=if b=(m k).b then some o else w.heap[b]?) (B:w'.heap.size=w.heap.size) (M:Kr w' S (m k).b e') (J:w'.os=w.os) (K:w'.tape=w.tape) (L:w'.output=w.output):
  Ok l (updH H k {H k with e:=e' }) m S w'/\Ext l H m S w (updH H k {H k with e:=e' }) m S w':=by
 obtain⟨R,T⟩:=h.mp.c k y hl t;have j:Ext l H m S w (updH H k {H k with e:=e' }) m S w':=by
  refine⟨λ_ h=>h,λb s=>?_,λq d=>?_,λq d U a=>?_,J,K,L,ae⟩
  ·grind
  ·by_cases e:q=k
   ·subst e;rw[AX];exact Yf _
   ·rw[AI _ _ e];exact Yf _
  ·by_cases e:q=k
   ·subst e;rw[AX]at a⊢;exact⟨a,rfl,rfl⟩
   ·rw[AI _ _ e]at a⊢;exact⟨a,rfl,rfl⟩
 have f:∀q:Ad,(updH H k {H k with e:=e' } q).live=(H q).live:=λq=>by
  by_cases e:q=k
  ·subst e;rw[AX]
  ·rw[AI _ _ e]
 have g:∀q:Ad,(H q).e.isO=(updH H k {H k with e:=e' } q).e.isO:=λq=>by
  by_cases e:q=k
  ·subst e;rw[AX];exact t.trans n.symm
  ·rw[AI _ _ e]
 refine⟨⟨λb s=>?_,λq d a r=>?_,λq d a r=>?_,λq E d p a c r D heq=>?_,λq d a r=>?_,
  ⟨λq d a=>?_,λq d a he=>?_,λq E d p a c he n heq=>?_⟩⟩,j⟩
 ·rw[B];exact h.sub b s
 ·rw[f]at a;have:=h.empty q d a r;by_cases e:q=k
  ·subst e;rw[AX];exact this
  ·rw[AI _ _ e];exact this
 ·rw[f]at a;exact h.fresh q d a r
 ·rw[f]at a c;exact h.inj q E d p a c r D heq
 ·rw[f]at a;by_cases e:q=k
  ·grind
  ·rw[AI _ _ e];obtain⟨C,s,hs,z,hx⟩:=h.blk q d a r;have A:(m q).b≠(m k).b:=λu=>by obtain⟨V,P,Q⟩:=(h.mp.o k y hl).at t;rw[u,P]at s;cases s;cases Q
   refine⟨C,by rw[F,Yh A];exact s,hs,z,λi x v hi O=>?_⟩;obtain⟨G,I⟩:=hx i x v hi O;exact⟨G,I.ext j d⟩
 ·rw[f]at a;by_cases e:q=k
  ·subst e;rw[AX];exact M
  ·rw[AI _ _ e];refine(h.mp.o q d a).mono (λ_ h=>h) j.blk (λN=>?_);rw[F,Yh (λu=>e (h.mp.i q k d y a hl N t u))]
 ·rw[f]at a;rw[<-g]at he;exact h.mp.c q d a he
 ·rw[f]at a c;rw[<-g]at he n;exact h.mp.i q E d p a c he n heq
theorem MEnt.push{q:Bool}{es:List (List D)}{ents:Array MapEntry}{a:Nat}{s:ByteArray}{ds:List D}{v:Value}(h:MEnt w S q es ents a)(g:VR w S q ds v):
  MEnt w S q (es++[.str s::ds]) (ents.push {key:=.string s,val:=v,born:=a }) (a+1):=by
 have b:∀(i:Nat) (y:MapEntry),(ents.push {key:=.string s,val:=v,born:=a })[i]?=some y->(i=ents.size/\y={key:=.string s,val:=v,born:=a })\/(i≠ents.size/\ents[i]?=some y):=λi y hy=>by grind
 refine⟨by simp[h.n],λi k y z hy j e=>?_,λi y hy=>?_,λi e y hi hy=>?_⟩
 ·rcases b i y hy with⟨rfl,rfl⟩|⟨a1,c⟩<;>rcases b k z j with⟨rfl,rfl⟩|⟨l,f⟩
  ·rfl
  ·have:=h.clk k z f;simp only at e;omega
  ·have:=h.clk i y c;simp only at e;omega
  ·exact h.born i k y z c f e
 ·rcases b i y hy with⟨rfl,rfl⟩|⟨a1,c⟩
  ·grind
  ·exact aI (h.clk i y c)
 ·rcases b i y hy with⟨rfl,rfl⟩|⟨a1,c⟩
  ·rw[h.n,Yw (Yf _),Nat.sub_self]at hi;cases hi;exact⟨s,ds,rfl,rfl,g⟩
  ·have d:i<es.length:=(by rw[<-h.n];exact Ob c);rw[Ys d]at hi;exact h.e i e y hi c
end
end Go.Eng
