import Derived.Test.YtalafnjhcecdpaaGreatDoorZa03
import Derived.Test.YtalafnjhcecdpaaGreatDoorZa01
import Derived.Maps.RangeRun
import Derived.Test.YtalafnjhcecdpaaGreatDoorZa00
namespace Go.Eng
open Go
set_option linter.all false
inductive Waits (ops:Array Oper):Nat->Nat->Prop
 |one {j i:Nat} {oj:Oper} {e:Edge} (hj:ops[j]?=some oj) (he:e∈oj.after) (hb:Region.binds .any e=true) (hi:e.on=i):Waits ops j i
 |more {j m i:Nat} {oj:Oper} {e:Edge} (hj:ops[j]?=some oj) (he:e∈oj.after) (hb:Region.binds .any e=true) (hm:e.on=m) (h:Waits ops m i):Waits ops j i
def QE(L:List Oper)(i:Nat):Nat->Nat->Bool
 |0,_=>false
 |a+1,j=>match Bl L j with|some b=>b.after.toList.any λe=>Region.binds .any e&&(Nat.beq e.on i||QE L i a e.on)|none=>false
theorem dy{L:List Oper}{i:Nat}:∀(a j:Nat),QE L i a j=true->Waits L.toArray j i
 |0,j,h=>by cases h
 |a+1,j,h=>by
  unfold QE at h;rw[Cp]at h;split at h
  ·rename_i f d;obtain⟨e,he,h⟩:=YU.1 h;rw[Yb,YB]at h;have c:L.toArray[j]?=some f:=(by simpa using d);rcases h.2 with b|b
   ·exact .one c (by simpa using he) h.1 (Ye b)
   ·exact .more c (by simpa using he) h.1 rfl (dy a _ b)
  ·cases h
def DC(ops:Array Oper)(listed:Array Bool):Prop:=∀(m:Nat) (a:Oper),ops[m]?=some a->listed.getD m false=true->∀e∈a.after,Region.binds .any e=true->listed.getD e.on false=true
theorem DC.waits{ops:Array Oper}{listed:Array Bool}(h:DC ops listed){j i:Nat}(c:Waits ops j i):listed.getD j false=true->listed.getD i false=true:=by
 induction c with
 |one b he a hi=>intro hl;rw[<-hi];exact h _ _ b hl _ he a
 |more b he a hm _ d=>intro hl;exact d (by rw[<-hm];exact h _ _ b hl _ he a)
theorem xU{listed:Array Bool}{i:Nat}(h:listed.getD i true=false):listed.getD i false=false:=by grind
theorem DC.ready{ops:Array Oper}{listed:Array Bool}(h:DC ops listed){j:Nat}(f:j∈Region.ready .any ops listed):DC ops (listed.setIfInBounds j true):=by
 obtain⟨i,k,c,a⟩:=mem_ready.1 f;intro m g hm hl e he d;by_cases b:j=m
 ·subst b;rw[c]at hm;cases hm;exact getD_set_true (a e he d)
 ·rw[getD_set_ne false b]at hl;exact getD_set_true (h m g hm hl e he d)
theorem DC.nowait{ops:Array Oper}{listed:Array Bool}(h:DC ops listed){j i:Nat}(g:j∈Region.ready .any ops listed)(hi:listed.getD i true=false):¬Waits ops j i:=λk=>by
 obtain⟨l,m,c,b⟩:=mem_ready.1 g;have hi:=xU hi;cases k with
 |one a he e f=>
  grind
 |more a he e hm d=>
  rw[c]at a;cases a;have:=h.waits d (by rw[<-hm];exact b _ he e);grind
def B4(o:Oper):Bool:=match o.op,o.dst,o.guard with
 |.store _ _ _,none,none=>true
 |_,_,_=>false
def HU(o:Oper):Bool:=match o.op with
 |.move _=>true
 |.binOp b _ _ _ _=>(match b with|.add=>true|.sub=>true|_=>false)
 |.indexAddr _ _ _=>true
 |.fieldAddr _ _ _=>true
 |.nilCheck _=>true
 |_=>false
def aN(H H':Hp):Prop:=∀k,(H' k).g=(H k).g/\(H' k).live=(H k).live/\(H' k).sz=(H k).sz
def Pw(L:List Oper)(p:Oper)(k:Nat):Bool:=Ce p k||p.after.toList.any λe=>Region.binds .any e&&(match L[e.on]? with|some a=>Ce a k|none=>false)
def SB(L:List Oper)(o:Oper)(k:Nat):Nat->List Oper->Bool
 |_,[]=>true
 |j,p::r=>(match B4 o with|true=>Ce p k|false=>true)&&(match B4 p with|true=>HU o||Pw L p k|false=>true)&&!Ce o j&&SB L o k (j+1) r
def Ma(L:List Oper):Nat->List Oper->Bool
 |_,[]=>true
 |k,o::r=>SB L o k (k+1) r&&Ma L (k+1) r
theorem sV{L:List Oper}{o:Oper}{k:Nat}:∀{l:List Oper} {j i:Nat} {p:Oper},SB L o k j l=true->l[i]?=some p->(B4 o=true->Ce p k=true)/\(B4 p=true->HU o=true\/Pw L p k=true)/\Ce o (j+i)=false
 |[],j,i,p,_,h=>by simp at h
 |q::r,j,i,p,a,h=>by
  simp only[SB,Yb,YO]at a;cases i with
  |zero=>
   grind
  |succ i=>
   have:=sV a.2 (i:=i) (by simpa using h);grind
theorem fZ{L:List Oper}:∀{l:List Oper} {k i j:Nat} {o p:Oper},Ma L k l=true->i<j->l[i]?=some o->l[j]?=some p->(B4 o=true->Ce p (k+i)=true)/\(B4 p=true->HU o=true\/Pw L p (k+i)=true)/\Ce o (k+j)=false
 |[],k,i,j,o,p,_,_,h,_=>by simp at h
 |q::r,k,i,j,o,p,b,c,h,a=>by
  simp only[Ma,Yb]at b;cases j with
  |zero=>omega
  |succ j=>
   have a:r[j]?=some p:=(by simpa using a);cases i with
   |zero=>
    simp only[Gs,Yn]at h;subst h;have:=sV b.1 a;grind
   |succ i=>
    have:=fZ b.2 (Nat.lt_of_succ_lt_succ c) (by simpa using h) a;grind
theorem eE{p:Oper}{k:Nat}(h:Ce p k=true)(b:∀e∈p.after,Region.binds .any e=true->e.on≠k):False:=by unfold Ce at h;rw[YU]at h;obtain⟨e,he,a⟩:=h;simp only[Yb]at a;exact b e (by simpa using he) a.1 (Ye a.2)
section
variable {P:Program} {l n:Nat} {B:Base} {H H':Hp} {ops:Array Oper} {ρ:Operand->AV}
theorem mY{o:Oper}{v:AV}(h:HU o=true)(hs:aN H H')(a:qV P l H o ρ v):qV P l H' o ρ v:=by
 obtain⟨e,op,type,pos,after,guard⟩:=o;cases op<;>simp only[HU]at h<;>first|(cases h;done)|skip
 case move=>exact a
 case nilCheck=>
  simp only[qV,A7]at a⊢;unfold Jx at a⊢;split at a
  ·rename_i k g off _;obtain⟨b,c,d⟩:=hs k;grind
  ·exact a
  ·grind
 case fieldAddr=>
  simp only[qV,A7]at a⊢;unfold Fh at a⊢;split at a
  ·exact a
  ·rename_i k g off o n _ _;obtain⟨b,c,d⟩:=hs k;grind
  ·grind
 case indexAddr=>
  simp only[qV,A7]at a⊢;unfold EA at a⊢;split at a
  ·exact a
  ·rename_i k g off len _ n _ sz _ _ _;obtain⟨b,c,d⟩:=hs k;grind
  ·grind
 case binOp=>
  simp only[qV,A7]at a⊢;unfold CV at a⊢;split at a
  ·exact a
  ·exact a
  ·grind
  ·exact a
  ·grind
  ·grind
theorem ZL3{o:Oper}{s:Nat->AV}{v:AV}(h:HU o=true)(hs:aN H H')(a:YA P l H ops o s v):YA P l H' ops o s v:=by
 unfold YA at a⊢;split at a
 ·exact mY h hs a
 ·split at a
  ·exact⟨λe=>mY h hs (a.1 e),a.2⟩
  grind
def G9(P:Program)(l:Nat)(o:Oper)(s:Nat->AV)(H H':Hp):Prop:=match o.op with
 |.store t a x=>match ev s a,C9 (ev s x)with
  |.ptr k g off,some vs=>g=(H k).g/\(H k).live=true/\vs.length=P.cellsOf t/\vs≠[]/\off+vs.length<=(H k).cells.length/\(k.1=l+1\/vs.all (AV.low k.1)=true)/\
    H'=updH H k {H k with cells:=(H k).cells.take off++vs++(H k).cells.drop (off+vs.length) }
  |_,_=>False
 |_=>False
theorem wV{o:Oper}{s:Nat->AV}(h:G9 P l o s H H'):aN H H':=by
 unfold G9 at h;split at h
 ·split at h
  ·obtain⟨_,_,_,_,_,_,rfl⟩:=h;intro k;unfold updH;grind
  grind
 grind
theorem zu{o:Oper}{s:Nat->AV}{K:St->Prop}(hs:B4 o=true)(h:BA P l n o K ⟨s,H⟩):∃H',G9 P l o s H H'/\K ⟨s,H'⟩:=by
 obtain⟨a,op,type,pos,after,guard⟩:=o;cases op<;>simp only[B4]at hs<;>first|(cases hs;done)|skip
 cases a with
 |some d=>cases hs
 |none=>
  simp only[BA]at h;simp only[G9];grind
theorem ZHg{o:Oper}{s:Nat->AV}{K:St->Prop}(hs:B4 o=true)(h:G9 P l o s H H')(b:K ⟨s,H'⟩):BA P l n o K ⟨s,H⟩:=by
 obtain⟨a,op,type,pos,after,guard⟩:=o;cases op<;>simp only[B4]at hs<;>first|(cases hs;done)|skip
 cases a with
 |some d=>cases hs
 |none=>
  simp only[G9]at h;simp only[BA];grind
theorem yh{o:Oper}{s:Nat->AV}{d:Nat}{u:AV}(g:d∉o.looksAt ops)(h:G9 P l o (upd s d u) H H'):G9 P l o s H H':=by
 have b:∀x∈o.op.operands,ev (upd s d u) x=ev s x:=λx hx=>by
  cases x with
  |tmp t=>
   have c:t≠d:=λe=>g (by subst e;exact Ib _ (List.mem_filterMap.2 ⟨.tmp t,by simpa using hx,rfl⟩));simp[ev,upd,c]
  |_=>rfl
 unfold G9 at h⊢;split at h
 ·rename_i t a x f;rw[b a (by rw[f];simp[Op.operands]),b x (by rw[f];simp[Op.operands])]at h;exact h
 grind
variable {fin:Bool} {X:St->Prop}
def FD(P:Program)(l n:Nat)(ops:Array Oper)(fin:Bool)(X:St->Prop)(i:Nat)(K:St->Prop)(σ:St):Prop:=
 match ops[i]? with
 |none=>K σ
 |some o=>(Db o=true/\∃d v,o.dst=some d/\d<n/\YA P l σ.H ops o σ.s v/\K ⟨upd σ.s d v,σ.H⟩)\/(B4 o=true/\∃H',G9 P l o σ.s σ.H H'/\K ⟨σ.s,H'⟩)\/(fin=true/\i+1=ops.size/\X σ)
def KT(P:Program)(l n:Nat)(ops:Array Oper)(fin:Bool)(X:St->Prop)(Q:St->Prop):Nat->Array Bool->St->Prop
 |0,listed,σ=>Region.ready .any ops listed=[]/\Q σ
 |fuel+1,listed,σ=>(Region.ready .any ops listed=[]->Q σ)/\∀i∈Region.ready .any ops listed,FD P l n ops fin X i (KT P l n ops fin X Q fuel (listed.setIfInBounds i true)) σ
theorem Zwe{i:Nat}{K g:St->Prop}{σ:St}(h:∀s,K s->g s)(b:FD P l n ops fin X i K σ):FD P l n ops fin X i g σ:=by
 unfold FD at*;split
 ·rename_i e;rw[e]at b;exact h _ b
 ·rename_i o e;rw[e]at b;rcases b with⟨a,d,v,c,f,j,k⟩|⟨a,H',c,f⟩|a
  ·exact .inl ⟨a,d,v,c,f,j,h _ k⟩
  ·exact .inr (.inl ⟨a,H',c,h _ f⟩)
  ·exact .inr (.inr a)
theorem zg{i j:Nat}{c t:Oper}{d:Nat}{v:AV}(A:ops[j]?=some t)(a:c.dst=some d)(m:c.apart ops t=true)(p:B4 t=true->HU c=true)(r:fin=true->j+1≠ops.size){K:St->Prop}{s:Nat->AV}
  (hy:YA P l H ops c s v) (h:FD P l n ops fin X j K ⟨upd s d v,H⟩):FD P l n ops fin X j (λg=>YA P l g.H ops c g.s v/\K ⟨upd g.s d v,g.H⟩) ⟨s,H⟩:=by
 obtain⟨w,x,y⟩:=Oper.apart_spec m;unfold FD at*;simp only[A]at*;rcases h with⟨b,e,u,he,o,f,k⟩|⟨b,H',f,k⟩|⟨b,z,_⟩
 ·refine .inl ⟨b,e,u,he,o,vT (w d a) f,yw (y e he) hy,?_⟩;have q:d≠e:=λe'=>x d a (e'▸he);rw[Zwv (Ne.symm q)];exact k
 ·exact .inr (.inl ⟨b,H',yh (w d a) f,ZL3 (p b) (wV f) hy,k⟩)
 ·exact absurd z (r b)
theorem Zqd{Q:St->Prop}{i:Nat}{o:Oper}{d:Nat}{v:AV}(hi:ops[i]?=some o)(hq:Db o=true)(D:o.dst=some d)(L:d<n):
  ∀(fuel:Nat) (listed:Array Bool) (s:Nat->AV) (H:Hp),
   (∀j u,ops[j]?=some u->j≠i->listed.getD j true=false->(∀e∈u.after,Region.binds .any e=true->e.on≠i/\∀a,ops[e.on]?=some a->Ce a i=false)->¬Waits ops j i->o.apart ops u=true/\(B4 u=true->HU o=true)/\(fin=true->j+1≠ops.size))->DC ops listed->
   (∀m a,ops[m]?=some a->Ce a i=true->listed.getD m true=false)->i∈Region.ready .any ops listed->YA P l H ops o s v->
   KT P l n ops fin X Q fuel (listed.setIfInBounds i true) ⟨upd s d v,H⟩->KT P l n ops fin X Q (fuel+1) listed ⟨s,H⟩:=by
 have w:∀{K:St->Prop} {s:Nat->AV} {H:Hp},YA P l H ops o s v->K ⟨upd s d v,H⟩->FD P l n ops fin X i K ⟨s,H⟩:=λhy hK=>by unfold FD;simp only[hi];exact .inl ⟨hq,d,v,D,L,hy,hK⟩
 intro fuel
 induction fuel with
 |zero=>
  intro listed s H _ _ T t hy B;refine⟨λh=>(by rw[h]at t;cases t),λj A=>?_⟩;by_cases b:j=i
  ·subst b;exact w hy B
  ·have:=ready_mono A b;rw[B.1]at this;cases this
 |succ fuel ih=>
  intro listed s H f W T t hy B;refine⟨λh=>(by rw[h]at t;cases t),λj A=>?_⟩;by_cases b:j=i
  ·subst b;exact w hy B
  ·have c:=B.2 j (ready_mono A b);obtain⟨q,u,z,p⟩:=mem_ready.1 A;have r:∀e∈u.after,Region.binds .any e=true->e.on≠i:=λe he I heq=>by
    have c:=p e he I;have C:=(mem_ready.1 t).1;rw[heq]at c;rcases YL i listed.size with x|x
    ·simp[x]at C c;rw[C]at c;cases c
    ·simp[FI x]at c
   have y:∀e∈u.after,Region.binds .any e=true->e.on≠i/\∀a,ops[e.on]?=some a->Ce a i=false:=λe he I=>⟨r e he I,λa S=>by
    cases J:Ce a i with
    |false=>rfl
    |true=>
     have c:=p e he I;have C:=T _ a S J;rcases YL e.on listed.size with x|x
     ·simp[x]at C c;rw[C]at c;cases c
     ·simp[FI x]at c⟩
   have M:=f j u z b q y (W.nowait A (mem_ready.1 t).1);have Z:=zg (i:=i) z D M.1 M.2.1 M.2.2 hy c;have g:∀k ok,ops[k]?=some ok->k≠i->(listed.setIfInBounds j true).getD k true=false->
     (∀e∈ok.after,Region.binds .any e=true->e.on≠i/\∀a,ops[e.on]?=some a->Ce a i=false)->¬Waits ops k i->o.apart ops ok=true/\(B4 ok=true->HU o=true)/\(fin=true->k+1≠ops.size):=λk ok hk N G O R=>by
    refine f k ok hk N ?_ O R;by_cases E:j=k
    ·subst E;exact q
    ·rw[getD_set_ne true E]at G;exact G
   have U:∀m a,ops[m]?=some a->Ce a i=true->(listed.setIfInBounds j true).getD m true=false:=λm a hm J=>by
    by_cases F:j=m
    ·subst F;rw[z]at hm;cases hm;exact(eE J r).elim
    ·rw[getD_set_ne true F];exact T m a hm J
   refine Zwe (λY V=>ih (listed.setIfInBounds j true) Y.s Y.H g (W.ready A) U (ready_mono t (Ne.symm b)) V.1 ?_) Z;rw[iQ _ _ b];exact V.2
theorem em{K K0:St->Prop}{m:Nat}(p:∀k (listed:Array Bool) (s:Nat->AV) (H:Hp),k+m=ops.size->(∀j,listed.getD j true=false->k<=j)->Region.lexFrom .any ops m k listed=true->K0 ⟨s,H⟩->KT P l n ops fin X K m listed ⟨s,H⟩)(w:fin=true->∀i,i+1<ops.size->Waits ops (ops.size-1) i)(z:∀i j N u,i<j->ops[i]?=some N->ops[j]?=some u->(B4 N=true->Ce u i=true)/\(B4 u=true->HU N=true\/Pw ops.toList u i=true)/\Ce N j=false):
  ∀(rest:List Oper) (k:Nat) (listed:Array Bool) (s:Nat->AV) (H:Hp),rest.all (λo=>Db o||B4 o)=true->(∀j,listed.getD j true=false->k<=j)->(∀j,k<=j->j<ops.size->listed.getD j true=false)->
  k+rest.length+m=ops.size->DC ops listed->(∀j,j<rest.length->rest[j]?=ops[k+j]?)->Region.lexFrom .any ops (rest.length+m) k listed=true->D5 P l n (ops.toList.map (·.dst)) rest K0 ⟨s,H⟩->KT P l n ops fin X K (rest.length+m) listed ⟨s,H⟩
 |[],k,listed,s,H,_,F,_,r,_,_,C,h=>by simp only[Hd,YX,E2]at C r⊢;exact p k listed s H r F C h
 |o::rest,k,listed,s,H,Z,F,hk2,r,hD,hl,C,h=>by
  have M:ops[k]?=some o:=by simpa using(hl 0 (by simp)).symm
  rw[D0,Nat.add_right_comm]at C⊢;simp only[Region.lexFrom,Yb]at C;obtain⟨⟨D,hf⟩,Q⟩:=C;have D:k∈Region.ready .any ops listed:=by simpa using D
  simp only[Ju,Yb,YB]at Z;have U:∀j,(listed.setIfInBounds k true).getD j true=false->k+1<=j:=λj E=>by
   by_cases g:k=j
   ·subst g;exfalso;rcases YL k listed.size with L|L
    ·simp[L]at E
    grind
   ·rw[getD_set_ne true g]at E;grind
  have G:∀j,k+1<=j->j<ops.size->(listed.setIfInBounds k true).getD j true=false:=λj h1 h2=>by rw[getD_set_ne true ae];grind
  have hu:∀m om,ops[m]?=some om->Ce om k=true->listed.getD m true=false:=λm om hm ho=>by grind
  have W:∀j,j<rest.length->rest[j]?=ops[k+1+j]?:=λj E=>by have:=hl (j+1) (by simp;omega);simpa[YM,ON 1 j]using this
  have next:∀s' H',D5 P l n (ops.toList.map (·.dst)) rest K0 ⟨s',H'⟩->KT P l n ops fin X K (rest.length+m) (listed.setIfInBounds k true) ⟨s',H'⟩:=λs' H' L=>
   em p w z rest (k+1) _ s' H' (by simpa using Z.2) U G (by simp only[D0]at r;omega) (hD.ready D) W Q L
  by_cases a:B4 o=true
  ·
   have y:o.guard=none:=by
    cases y:o.guard with
    |none=>rfl
    |some _=>obtain⟨O,op,type,pos,after,guard⟩:=o;simp only at y;subst y;cases op<;>cases O<;>simp[B4]at a
   have J:BA P l n o (D5 P l n (ops.toList.map (·.dst)) rest K0) ⟨s,H⟩:=by
    unfold D5 at h;simp only[y]at h;unfold F6 at h;split at h
    ·rename_i R;simp[B4,R]at a
    ·rename_i c R;simp[B4,R]at a
    ·exact h
   obtain⟨H',hS,hK⟩:=zu a J;refine⟨λh=>(by rw[h]at D;cases D),λj E=>?_⟩;by_cases g:j=k
   ·subst g;unfold FD;grind
   ·exfalso;obtain⟨f,u,q,hall⟩:=mem_ready.1 E;have V:=F j f;have he:=(z k j o u ae M q).1 a;refine eE he λe he x heq=>?_;grind
  ·have B:Db o=true:=(by rcases Z.1 with h|h;exact h;exact absurd h a);have hst:∃d v,o.dst=some d/\d<n/\YA P l H ops o s v/\D5 P l n (ops.toList.map (·.dst)) rest K0 ⟨upd s d v,H⟩:=by
    unfold D5 at h;unfold YA;cases y:o.guard with
    |none=>simp only[y]at h;exact su B h
    |some gw=>
     obtain⟨i,b⟩:=gw;simp only[y]at h⊢;split at h
     ·rename_i t ht;cases t with
      |true=>
       obtain⟨d,v,h1,h2,h3,h4⟩:=su B (h.1 rfl);grind
      |false=>
       grind
     grind
   obtain⟨d,v,hd,S,hy,hK⟩:=hst;refine Zqd M B hd S (rest.length+m) listed s H (λj u q g f I Y=>⟨Region.free_spec M hf j u q g f (λe he x=>(I e he x).1),λhsj=>?_,λT A=>Y (by have:=w T k (by have:=F j f;omega);rwa [<-A,Nat.add_sub_cancel]at this)⟩) hD hu D hy (next _ _ hK);have V:=F j f;rcases(z k j o u ae M q).2.1 hsj with h|h
   ·exact h
   ·exfalso;unfold Pw at h;rw[YB]at h;rcases h with h|h
    ·exact eE h λe he x=>(I e he x).1
    ·obtain⟨e,he,x⟩:=YU.1 h;rw[Yb]at x;obtain⟨Eu,Av⟩:=x;split at Av
     ·grind
     grind
theorem Znh{i:Nat}{σ:St}{a:Act}{w:World}{K:St->Prop}{q:Act->World->Prop}{f:Exit->Act->World->Prop}(r:R l n B σ a w)
  (h:∀σ a w,R l n B σ a w->K σ->q a w) (L:fin=true->i+1=ops.size->X σ->wpOp P ops f i q a w) (A:FD P l n ops fin X i K σ):wpOp P ops f i q a w:=by
 have z:=L;obtain⟨s,H⟩:=σ;unfold FD at A;unfold wpOp;split
 ·grind
 ·rename_i o G;simp only[G]at A;rcases A with⟨C,d,v,F,g,hy,E⟩|⟨k,H',y,E⟩|⟨T,U,V⟩
  rotate_left 2
  ·have:=z T U V;unfold wpOp at this;simpa only[G]using this
  ·have go:qV P l H o (ev s) v->o.wp P a w q f:=λQ=>by have:=z2 (B:=B) C F g Q a w r f;refine Oper.wp_mono (λI w' ⟨D,e,x⟩=>?_) this;grind
   unfold YA at hy;cases c:o.guard with
   |none=>
    simp only[c]at hy;rw[Ym (by simp[Region.wanted,c])];grind
   |some J=>
    obtain⟨j,b⟩:=J;simp only[c]at hy;split at hy
    ·rename_i t O;have p:(yielded ops a.tmps j==some b)=t:=(by obtain⟨m,S,W,Y,M,y,N⟩:=r.un;exact dQ y O);cases t with
     |true=>
      rw[Ym (by simp only[Region.wanted,c];exact p)];grind
     |false=>
      rw[Yk (by simp only[Region.wanted,c,p];decide)];have:=hy.2 rfl;subst this;rw[F];exact h _ _ _ (R.undef r g) E
    grind
  ·have c:o.guard=none:=by
    cases c:o.guard with
    |none=>rfl
    |some _=>obtain⟨u,op,type,pos,after,guard⟩:=o;simp only at c;subst c;cases op<;>cases u<;>simp[B4]at k
   rw[Ym (by simp[Region.wanted,c])];refine .inl ?_;have:=Lu (B:=B) (ZHg (n:=n) (K:=λD=>D=⟨s,H'⟩) k y rfl) a w r f;refine Oper.wp_mono (λI w' ⟨D,e,x⟩=>?_) this;grind
theorem qT{b:Exit->Act->World->Prop}{listed:Array Bool}(h:Region.ready .any ops listed=[]){a:Act}{w:World}(c:b .normal a w):∀fuel,wpAny P .any ops b fuel listed a w
 |0=>⟨h,c⟩
 |_+1=>⟨λ_=>c,λi hi=>by rw[h]at hi;cases hi⟩
theorem cV{Q:St->Prop}{m:Exit->Act->World->Prop}(q:∀σ a w,R l n B σ a w->Q σ->m .normal a w)(b:fin=true->∀i,i+1<ops.size->Waits ops (ops.size-1) i)(y:fin=true->∀σ a w,R l n B σ a w->X σ->∀o,ops[ops.size-1]?=some o->wpList P ops m [o] a w):
  ∀(fuel:Nat) (listed:Array Bool) (σ:St) (a:Act) (w:World),DC ops listed->R l n B σ a w->KT P l n ops fin X Q fuel listed σ->wpAny P .any ops m fuel listed a w
 |0,_,_,_,_,_,d,h=>⟨h.1,q _ _ _ d h.2⟩
 |fuel+1,listed,σ,a,w,x,d,h=>⟨λu=>q _ _ _ d (h.1 u),λi hi=>Znh d (λs' t w' r D=>cV q b y fuel _ s' t w' (x.ready hi) r D) (λC J H=>by
  obtain⟨u,o,A,z⟩:=mem_ready.1 hi;have e:ops.size-1=i:=ae
  have hw:=y C σ a w d H o (by rw[e];exact A);have g:Region.ready .any ops (listed.setIfInBounds i true)=[]:=by
   refine List.eq_nil_iff_forall_not_mem.2 λj E=>?_;obtain⟨k,I,s,_⟩:=mem_ready.1 E;have F:j<ops.size:=(Y3.1 s).1;by_cases f:i=j
   ·subst f;rcases YL i listed.size with p|p
    ·simp[p]at k
    ·simp[FI p]at k
   ·rw[getD_set_ne true f]at k;have v:=b C j ae;rw[e]at v;exact x.nowait hi k v
  unfold wpOp;simp only[A];unfold wpList at hw;split
  ·rename_i c;rw[Ym c]at hw;exact hw.imp (Oper.wp_mono λt w' G=>qT g G _) id
  ·rename_i c;rw[Yk c]at hw;exact qT g hw _) (h.2 i hi)⟩
theorem DC.none(n:Nat):DC ops (Array.replicate n false):=λm b _ h=>by
 rw[Yz]at h;rcases YL m n with a|a
 ·simp[a]at h
 ·simp[Nat.not_lt.2 a]at h
theorem ZqW{id:Nat}{ops:List Oper}{σ:St}{Q:Exit->St->Prop}(hm:P.follows .mixedOrders=true)(c:Region.lexB .any ops.toArray=true)(C:ops.all (λo=>Db o||B4 o)=true)(hs:Ma ops 0 ops=true)
  (h:D5 P l n (ops.map (·.dst)) ops (Q .normal) σ):BL P l n B (.region id ops.toArray true) Q σ:=by
 intro a w x;obtain⟨s,H⟩:=σ;simp only[Region.lexB,Yb]at c;have u:=em (P:=P) (l:=l) (n:=n) (ops:=ops.toArray) (K:=Q .normal) (K0:=Q .normal) (m:=0) (fin:=false) (X:=λ_=>False) (λk listed s H _ _ c h=>⟨by simpa[Region.lexFrom]using c,h⟩) (λe=>by cases e) (λi j E F p hi z=>by have:=fZ hs p (by simpa using hi) (by simpa using z);simpa using this) ops 0 (Array.replicate ops.toArray.size false) s H C (λ_ _=>Cn _) (λj _ h=>by simp at h;simp[h]) (by simp) (DC.none _) (by simp) (by simpa using c.2) (by simpa using h);have d:R l n B ⟨s,H⟩ a {w with drawn:=w.drawn+1 }:=by obtain⟨m,S,v,A,f,y,g⟩:=x.un;obtain⟨r,t⟩:=v.drew (w':={w with drawn:=w.drawn+1 }) rfl rfl rfl rfl;exact R.keep r A f y g t
 refine wp_region_any hm (cV (Q:=Q .normal) (fin:=false) (X:=λ_=>False) (λG D w' b q=>⟨_,q,b⟩) (λe=>by cases e) (λe=>by cases e) _ _ _ a _ (DC.none _) d (by simpa using u))
theorem Zst{id:Nat}{L:List Oper}{o:Oper}{σ:St}{QQ:Exit->Act->World->Prop}{X:St->Prop}(hm:P.follows .mixedOrders=true)(c:Region.lexB .any (L++[o]).toArray=true)(J:L.all (λo=>Db o||B4 o)=true)(hs:Ma (L++[o]) 0 (L++[o])=true)
  (M:∀i,i<L.length->Waits (L++[o]).toArray L.length i) (h:D5 P l n ((L++[o]).map (·.dst)) L X σ) (G:∀σ a w,R l n B σ a w->X σ->wpList P (L++[o]).toArray QQ [o] a w) {a:Act} {w:World} (g:R l n B σ a w):(Code.region id (L++[o]).toArray true).wp P QQ a w:=by
 obtain⟨s,H⟩:=σ;simp only[Region.lexB,Yb]at c;have b:true=true->∀i,i+1<(L++[o]).toArray.size->Waits (L++[o]).toArray ((L++[o]).toArray.size-1) i:=λ_ i hi=>by have:=M i (by simpa using hi);simpa using this
 have D:=em (P:=P) (l:=l) (n:=n) (ops:=(L++[o]).toArray) (K:=λ_=>False) (K0:=X) (m:=1) (fin:=true) (X:=X) (λk listed s H U hl c h=>by
   simp only[Region.lexFrom,Yb]at c;have C:k∈Region.ready .any (L++[o]).toArray listed:=(by simpa using c.1.1);refine⟨λf=>(by rw[f]at C;cases C),λi hi=>?_⟩;obtain⟨f,O,d,_⟩:=mem_ready.1 hi;have y:=hl i f;have z:i<(L++[o]).toArray.size:=(Y3.1 d).1;unfold FD;simp only[d];refine .inr (.inr ?_);exact And.intro (by first|rfl|trivial) (And.intro ae h)) b (λi j O V t hi u=>by
   have:=fZ hs t (by simpa using hi) (by simpa using u);simpa using this) L 0 (Array.replicate (L++[o]).toArray.size false) s H J (λ_ _=>Cn _) (λj _ h=>by simp at h;simp[h]) (by simp) (DC.none _) (λj u=>by simp[Yw u]) (by simpa using c.2) (by simpa using h)
 have p:R l n B ⟨s,H⟩ a {w with drawn:=w.drawn+1 }:=by obtain⟨m,S,E,I,q,F,r⟩:=g.un;obtain⟨y,z⟩:=E.drew (w':={w with drawn:=w.drawn+1 }) rfl rfl rfl rfl;exact R.keep y I q F r z
 refine wp_region_any hm (cV (Q:=λ_=>False) (fin:=true) (X:=X) (λW T w' A x=>x.elim) b (λ_ σ a w g hx N v=>?_) _ _ _ a _ (DC.none _) p (by simpa using D));have e:N=o:=by simpa using v.symm
 subst e;exact G σ a w g hx
end
end Go.Eng
namespace Go.Eng
set_option linter.all false
open Go Go.RowKit
section
variable {P:Program} {T:Nat->Option TI} {r:Ren} {H H':Hp} {g:Option Bool} {a:AT} {K:AV->AT->Prop}
def KR(r:Ren)(K:AV->AT->Prop)(y:AV):Prop:=∃v a,y=ren r v/\K v a
theorem KR.mk{v:AV}{a:AT}(h:K v a):KR r K (ren r v):=⟨v,a,rfl,h⟩
theorem KR.mk'{v y:AV}{a:AT}(h:K v a)(e:y=ren r v):KR r K y:=⟨v,a,e,h⟩
theorem uj{t:TypeId}{i:TI}(hi:TIok P t i)(h:(i.str||i.elm.isSome)=true):Kw P t=true:=by
 rw[YB]at h;unfold Kw;rcases h with h|h
 ·have:=hi.str h;unfold MM at this;split at this
  ·rename_i a _;rw[a]
  ·cases this
 ·obtain⟨e,he⟩:=FH.1 h;obtain⟨b,c⟩:=e;have:=(Fj (hi.elm _ he)).1;rw[this]
theorem dz{t:TypeId}{i:TI}(hi:TIok P t i)(y:DV r H H')(p:∀b,g=some b->b=true){x:AV}(h:N3 i H x g a K):EL P H' t (ren r x) (KR r K):=by
 unfold N3 at h;cases x<;>simp only at h<;>try exact h.elim
 case iptr cs off=>
  simp only[ren,EL,hi.agg,hi.siz];split at h
  ·rename_i he;rw[he];split at h
   ·rename_i c d f;obtain⟨m,n⟩:=ee _ _ _ f;have d:=Yj d;rw[Dz]at n;exact⟨ae,ae,.mk' h (by rw[m,ren,Iq])⟩
   grind
  ·rename_i he;rw[he];rw[Cp]at h;simp only;split at h
   ·rename_i c o;simp only[o];exact .mk' h rfl
   grind
 case ptr k q off=>
  simp only[ren,EL,hi.agg,hi.siz];split at h
  ·rename_i hl;obtain⟨s,u,z,A,v⟩:=y.at hl;refine⟨s,u,?_⟩;rw[v];split at h
   ·split at h
    ·rename_i he;rw[he];split at h
     ·rename_i c d f;obtain⟨m,n⟩:=ee _ _ _ f;have d:=Yj d;rw[Dz]at n;exact⟨ae,by rw[CR];omega,.mk' h (by rw[ren,Fg,FR,m])⟩
     grind
    ·rename_i he;rw[he];rw[Cp]at h;split at h
     ·rename_i c o;simp only[In,o,Y7];exact .mk' h rfl
     grind
   ·split at h
    ·rename_i he;rw[he];split at h
     ·rename_i c B d f;have d:=Yj d;have f:=Ye f;have j:D3 _ _ _:=Bw p h.1;unfold D3 at j;rw[f]at j;have w:=congrArg List.length j;rw[YD,Dz]at w;exact⟨ae,by rw[CR];omega,.mk' h.2 (by rw[ren,Fg,FR,j])⟩
     grind
    ·rename_i he;rw[he];split at h
     ·rename_i x;have j:D3 _ _ _:=Bw p h.1;unfold D3 at j;have e:(H k).cells[off]?=some x:=(by have:=congrArg (λl=>l[0]?) j;grind);simp only[In,e,Y7];exact .mk' h.2 rfl
     grind
   grind
  ·grind
theorem NS{t:TypeId}{i:TI}(hi:TIok P t i){f:Nat}{x:Nat×Nat×Bool}(h:Bl i.fld f=some x):fld P t f=some (x.1,x.2.1)/\My P t f=some x:=by rw[Cp]at h;exact hi.fld f x h
theorem Zie{t:TypeId}{i:TI}(hi:TIok P t i)(j:DV r H H'){f:Nat}{x:AV}(h:Uj i H f x a K):Fh P H' t f (ren r x) (KR r K):=by
 unfold Uj at h;split at h
 ·rename_i o n b k;have e:=(NS hi k).1;split at h
  ·rename_i c;have c:=Yj c;unfold Fh;rw[e];split at h
   ·simp only[ren];exact⟨ae,.mk' h rfl⟩
   ·split at h
    ·rename_i hl;obtain⟨d,g,_⟩:=j.at hl;simp only[ren];exact⟨ae,d,g,.mk' h rfl⟩
    grind
   grind
  grind
 grind
theorem Zmm{t:TypeId}{i:TI}(hi:TIok P t i){f:Nat}{x:AV}(h:Vg i f x a K):Fl P t f (ren r x) (KR r K):=by
 unfold Vg at h;rw[Zt3];split at h
 ·rename_i o n cs b;rw[(NS hi b).2];split at h
  ·rename_i d;have d:=Yj d;simp only[ren,Pu];exact⟨ae,.mk' h (by rw[ren,Fg,FR])⟩
  grind
 ·rename_i o n cs b;rw[(NS hi b).2];rw[Cp]at h;split at h
  ·rename_i c e;simp only[ren,Pu,In,e,Y7];exact .mk' h rfl
  grind
 grind
theorem Zh1{t:TypeId}{i:TI}(hi:TIok P t i)(w:DV r H H')(m:∀b,g=some b->b=true){x j:AV}(h:Ug i H x j g a K):EA P H' t (ren r x) (ren r j) (KR r K):=by
 unfold Ug at h;split at h
 ·rename_i e sz k n he;have he:=hi.elm _ he;split at h
  ·rename_i y e' q;split at h
   ·rename_i c d;have c:=Ye c;have d:=Yj d;obtain⟨f,l⟩:Kh _ _ _:=Bw m h.1;simp only[ren,EA,he];refine⟨f,?_⟩;rw[l];exact⟨c,ae,.mk' h.2 rfl⟩
   grind
  ·rename_i k q off len o B;split at h
   ·rename_i hl c d;have c:=Ye c;have d:=Yj d;obtain⟨p,s,z,u,A⟩:=w.at hl;obtain⟨f,l,v⟩:MX _ _ _ _ _:=Bw m h.1;simp only[ren,EA,he];exact⟨f,l,p,s,by rw[u,c],ae,.mk' h.2 (by rw[ren,v])⟩
   grind
  grind
 grind
theorem ZlZ{t:TypeId}{i:TI}(hi:TIok P t i)(m:∀b,g=some b->b=true){x j:AV}(h:Vb i x j g a K):FT P t (ren r x) (ren r j) (KR r K):=by
 unfold Vb at h;split at h
 ·rename_i s k n b q;split at h
  ·rename_i d;have d:=Ye d;obtain⟨e,c,f,l⟩:Kl _ _ _:=Bw m h.1;simp only[ren,FT];refine⟨by rw[hi.kin];exact d,e,?_⟩;rw[f];exact .mk' h.2 (by rw[ren,l])
  grind
 grind
theorem ZpT{op:BinOp}{k:IntKind}{x y:Int}(c:∀b,g=some b->b=true)(h:SW op k x y g a K):G1 op k x y (KR r K):=by
 unfold SW at h;cases op<;>simp only at h<;>try exact h.elim
 all_goals simp only[G1]
 case eql=>exact .mk' h rfl
 case neq=>exact .mk' h rfl
 case lss=>exact .mk' h rfl
 case leq=>exact .mk' h rfl
 case gtr=>exact .mk' h rfl
 case geq=>exact .mk' h rfl
 case add|sub|mul=>
  split at h
  ·have e:Cz _ _ _:=Bw c h.1;unfold Cz at e;rw[e];exact .mk' h.2 rfl
  ·grind
 case and|or|xor=>
  split at h
  ·have e:BJ _ _:=Bw c h.1;unfold BJ at e;rw[e];exact .mk' h.2 rfl
  ·grind
 case quo=>
  split at h
  ·have e:Cz _ _ _:=Bw c h.2.1;unfold Cz at e;rw[e];exact⟨Bw c h.1,.mk' h.2.2 rfl⟩
  ·grind
 case rem=>
  split at h
  ·have e:BJ _ _:=Bw c h.2.1;unfold BJ at e;rw[e];exact⟨Bw c h.1,.mk' h.2.2 rfl⟩
  ·grind
 case shr=>
  split at h
  ·have e:BJ _ _:=Bw c h.2.1;unfold BJ at e;rw[e];exact⟨Bw c h.1,.mk' h.2.2 rfl⟩
  ·grind
 case shl=>
  split at h
  ·have e:Cz _ _ _:=Bw c h.2.1;unfold Cz at e;rw[e];exact⟨Bw c h.1,.mk' h.2.2 rfl⟩
  ·grind
theorem Zp8{op:BinOp}{x y:ByteArray}(c:∀b,g=some b->b=true)(h:SD op x y g a K):GX op x y (KR r K):=by
 unfold SD at h;cases op<;>simp only at h<;>try exact h.elim
 all_goals simp only[GX]
 case add=>exact⟨Bw c h.1,.mk' h.2 rfl⟩
 all_goals exact .mk' h rfl
theorem re{neg:Bool}{x:AV}(i:DV r H H')(h:MN H neg x a K):D6 H' neg (ren r x) (KR r K):=by
 unfold MN at h;split at h
 ·simp only[ren,D6];exact λb=>.mk' (h b) rfl
 ·rename_i c;cases c with
  |nil=>simp only[ren,D6];exact λb=>.mk' (h b (λe=>absurd rfl e)) rfl
  |cons e c=>simp only[ren,D6];exact .mk' (h neg (λ_=>rfl)) rfl
 ·rename_i k q off n;split at h
  ·rename_i hl;obtain⟨f,g,_⟩:=i.at hl;simp only[ren,D6];exact⟨⟨f,g⟩,λd=>.mk' (h neg (λ_=>rfl)) rfl,λd b=>.mk' (h b (λe=>absurd d e)) rfl⟩
  grind
 grind
theorem rp:∀(ks:List Nat) (xs ys:List AV) (b:Bool),EM ks xs ys=some b->EM ks (Ao r xs) (Ao r ys)=some b
 |[],[],[],b,h=>by simpa[Ao]using h
 |k::ks,x::xs,y::ys,b,h=>by
  cases x<;>cases y<;>simp only[EM]at h<;>try (cases h;done)
  rename_i x y;simp only[Ao,ren,EM];split at h
  ·rename_i d e a c;simp only[a,rp ks xs ys _ c];exact h
  ·cases h
 |[],[],_::_,b,h=>by simp[EM]at h
 |[],_::_,_,b,h=>by simp[EM]at h
 |_::_,[],_,b,h=>by simp[EM]at h
 |_::_,x::_,[],b,h=>by cases x<;>simp[EM]at h
theorem xx{H:Hp}{op:BinOp}{t:TypeId}{a:Bool}{x:AV}{K:AV->Prop}:CV P H op t a x .e0 K=(a=true/\kin P t=4/\match op with|.eql=>D6 H false x K|.neq=>D6 H true x K|_=>False):=by unfold CV;grind
theorem ZqQ{t:TypeId}{i:TI}(hi:TIok P t i)(e:DV r H H')(f:∀b,g=some b->b=true){op:BinOp}{j:Bool}{x y:AV}(h:Tn i H op j x y g a K):CV P H' op t j (ren r x) (ren r y) (KR r K):=by
 unfold Tn at h;split at h
 ·split at h
  ·rename_i c;simp only[ren,CV];exact⟨ZIG c,ZpT f h⟩
  grind
 ·simp only[ren,CV];exact Zp8 f h
 ·split at h
  ·rename_i c;simp only[ren,CV];refine⟨by rw[hi.kin];exact Ye c,?_⟩;split at h
   ·exact .mk' h rfl
   ·exact .mk' h rfl
   grind
  grind
 ·rename_i xs ys;split at h
  ·rename_i ks d;split at h
   ·rename_i b l;simp only[ren,CV,HC,hi.eqt _ d,rp _ _ _ _ l];split at h
    ·exact .mk' h rfl
    ·exact .mk' h rfl
    grind
   grind
  grind
 ·rw[show ren r .e0=.e0 from by simp[ren],xx];split at h
  ·rename_i m k;refine⟨rfl,by rw[hi.kin];exact Ye k,?_⟩;split at h
   ·exact re e h
   ·exact re e h
   grind
  grind
 grind
theorem Zs6{op:UnOp}{x:AV}(c:∀b,g=some b->b=true)(h:W4 op x g a K):EY op (ren r x) (KR r K):=by
 unfold W4 at h;split at h
 ·simp only[ren,EY];exact .mk' h rfl
 ·split at h
  ·have e:Cz _ _ _:=Bw c h.1;unfold Cz at e;simp only[ren,EY];rw[e];exact .mk' h.2 rfl
  grind
 ·split at h
  ·have e:BJ _ _:=Bw c h.1;unfold BJ at e;simp only[ren,EY];rw[e];exact .mk' h.2 rfl
  grind
 grind
theorem ZnM{s d:TypeId}{i j:TI}(hi:TIok P s i)(k:TIok P d j){x:AV}(l:∀b,g=some b->b=true)(h:Wr i j x g a K):Fo P s d (ren r x) (KR r K):=by
 unfold Wr at h;split at h
 ·split at h
  ·rename_i q n p k' o m t c f;have e:Cz _ _ _:=Bw l h.1;unfold Cz at e;simp only[ren,Fo,hi.ik _ c,k.ik _ f];rw[e];exact .mk' h.2 rfl
  grind
 ·split at h
  ·rename_i c f;simp only[ren,Fo,Im (by rw[hi.kin];exact Ye c),Im (by rw[k.kin];exact Ye f)];exact .mk' h rfl
  grind
 grind
theorem NN{d l:Nat}{o a:Option AV}(h:Dk d o l)(b:a=o.map (ren r)):Et d a=some l:=by
 subst b;unfold Dk at h;split at h
 ·simp[Et,h]
 ·subst h;simp[Et,ren]
 grind
theorem Zmh{t:TypeId}{i:TI}(hi:TIok P t i)(B:DV r H H')(c:∀b,g=some b->b=true){x:AV}{lo q:Option AV}{v:Bool}(h:Vr i H x lo q v g a K):
  EG P H' t (ren r x) (lo.map (ren r)) (q.map (ren r)) v (KR r K):=by
 unfold Vr at h;split at h
 ·split at h
  ·split at h
   ·rename_i C;obtain⟨m,n,o,p⟩:=h;have f:=NN (r:=r) (Bw c m) rfl;have j:=NN (r:=r) (Bw c n) rfl;have d:E1 _ _ _:=Bw c o;simp only[ren,EG,f,j];exact⟨by rw[hi.kin];exact Ye C,trivial,d.1,d.2,.mk' p rfl⟩
   grind
  ·split at h
   ·rename_i e sz w D he;split at h
    ·rename_i l;have l:=Yj l;obtain⟨m,n,o,p,u⟩:=h;have f:=NN (r:=r) (Bw c m) rfl;have j:=NN (r:=r) (Bw c n) rfl;have d:E1 _ _ _:=Bw c o;have k:OI _ _ _ _ _:=Bw c p;simp only[ren,EG,f,j,hi.elm _ he];exact⟨trivial,ae,k.1,d.1,d.2,.mk' u (by rw[ren,k.2])⟩
    grind
   grind
  ·split at h
   ·rename_i e sz I G D he hl;split at h
    ·rename_i l s;have l:=Yj l;obtain⟨y,z,E,A,F⟩:=B.at hl;obtain⟨m,n,o,p,u⟩:=h;have f:=NN (r:=r) (Bw c m) rfl;have j:=NN (r:=r) (Bw c n) rfl;have d:E1 _ _ _:=Bw c o;have k:Xq _ _ _ _ _:=Bw c p;simp only[ren,EG,f,j,hi.elm _ he];exact⟨trivial,y,z,ae,by rw[A];exact Ye s,d.1,d.2,.mk' u (by rw[ren,k.1,k.2])⟩
    grind
   grind
  grind
 grind
theorem Zqk{t:TypeId}{i:TI}(hi:TIok P t i)(k:DV r H H')(d:∀b,g=some b->b=true){x:AV}(h:TB i H x g a K):D8 P H' t (ren r x) (KR r K):=by
 unfold TB at h;split at h
 ·split at h
  ·rename_i c;have e:BJ _ _:=Bw d h.1;unfold BJ at e;simp only[ren,D8,hi.kin];exact⟨Ye c,.mk' h.2 (by rw[ren,e])⟩
  grind
 ·split at h
  ·rename_i c;have e:BJ _ _:=Bw d h.1;unfold BJ at e;simp only[ren,D8,hi.kin];exact⟨Ye c,.mk' h.2 (by rw[ren,e])⟩
  grind
 ·split at h
  ·rename_i c;have e:BJ _ _:=Bw d h.1;unfold BJ at e;simp only[ren,D8,hi.kin];exact⟨Ye c,.mk' h.2 (by rw[ren,e])⟩
  grind
 ·split at h
  ·rename_i c hl;have e:BJ _ _:=Bw d h.1;unfold BJ at e;obtain⟨f,j,_⟩:=k.at hl;simp only[ren,D8,hi.kin];exact⟨Ye c,f,j,.mk' h.2 (by rw[ren,e])⟩
  grind
 grind
theorem ZpW(a:DV r H H'){x:AV}{y:Bool×List (List D)}(h:gx H x=some y):NY H' (ren r x)=some y:=by
 unfold gx at h;split at h
 ·simp only[ren,NY];exact h
 ·split at h
  ·rename_i k g _ _ q b hl he;obtain⟨c,d,e,_,_⟩:=a.at hl;simp only[ren,NY];grind
  ·cases h
 ·cases h
theorem ta(q:Bool)(ds:List D):ren r (Oq q ds)=Oq q ds:=by unfold Oq;split<;>simp[ren,Iq]
theorem y8(a q:Bool)(ds:List D)(ok:Bool):ren r (Oo a q ds ok)=Oo a q ds ok:=by
 unfold Oo;cases a
 ·exact ta q ds
 ·simp only[ren,Ao,ta]
theorem Zno{t:TypeId}{i:TI}(hi:TIok P t i)(k:DV r H H')(l:∀b,g=some b->b=true){x y:AV}{c:Bool}(h:Wy i H x y c g a K):GO P H' t (ren r x) (ren r y) c (KR r K):=by
 unfold Wy at h;split at h
 ·rename_i q z p o s ok vs n f j;split at h
  ·rename_i m;obtain⟨d,e⟩:Q6 _ _ _ _ _:=Bw l h.1;simp only[GO,hi.mp _ f,ZpW k j,ren];exact⟨zU m,.mk' h.2 (by rw[d,e,y8])⟩
  grind
 grind
theorem PZ{x:AV}{vs:List AV}(h:C9 x=some vs)(hx:∀f xs ys,x≠.fn (.yield f) xs ys):C9 (ren r x)=some (Ao r vs):=by
 cases x<;>simp only[C9,Yn]at h<;>try (cases h;done)
 case fn f xs ys=>
  subst h;cases f with
  |yield i=>exact absurd rfl (hx i xs ys)
  |_=>simp[ren,Ao,C9]
 all_goals(subst h;simp[ren,Ao,C9])
theorem Qd{x:AV}(h:JB x=true):∀f xs ys,x≠.fn (.yield f) xs ys:=by rintro f xs ys rfl;cases h
theorem ZIU{t:TypeId}{i:TI}(hi:TIok P t i){f o n:Nat}(h:g9 i f=some (o,n)):fld P t f=some (o,n):=by
 unfold g9 at h;split at h
 ·rename_i d c b a;simp only[Yn,Hi]at h;obtain⟨rfl,rfl⟩:=h;exact(NS hi a).1
 ·cases h
theorem qK{t:TypeId}{i:TI}(hi:TIok P t i):∀(ps:List (Nat×AV)) (z cs:List AV),(∀p∈ps,JB p.2=true)->Rl i z ps=some cs->CI (fld P t) (Ao r z) (ps.map λp=>(p.1,ren r p.2))=some (Ao r cs)
 |[],z,cs,_,h=>by simp only[Rl,Yn]at h;subst h;simp[CI]
 |(f,v)::ps,z,cs,e,h=>by
  simp only[Rl]at h;split at h
  ·rename_i off size vs a g;split at h
   ·rename_i c d;have c:=Ye c;have d:=Yj d;have b:=PZ (r:=r) g (Qd (e (f,v) (YJ ..)));simp only[YZ,CI,ZIU hi a,b,CR];rw[Yk ae];have:=qK hi ps _ cs (λp a=>e p (YH _ a)) h;rw[<-this];simp only[Hn,FR,Fg]
   ·cases h
  ·cases h
theorem Zmt{t:TypeId}{i:TI}(hi:TIok P t i){parts:List (Nat×AV)}(e:∀p∈parts,JB p.2=true)(f:∀z,i.zer=some z->Ao r z=z)(h:Vk i parts a K):
  FU P t (parts.map λp=>(p.1,ren r p.2)) (KR r K):=by
 unfold Vk at h;split at h
 ·rename_i z c b;split at h
  ·rename_i cs d;have:=qK (r:=r) hi _ _ _ e d;unfold FU;rw[hi.zer _ b];rw[f z b]at this;simp only[this];exact⟨hi.str c,.mk' h rfl⟩
  grind
 grind
theorem Zvp{x:AV}(h:x.flat=true):ren r x=x:=by cases x<;>first|(simp[ren];done)|cases h
theorem Lx{z:List AV}(h:z.all AV.flat=true):Ao r z=z:=by
 induction z with
 |nil=>simp[Ao]
 |cons x z a=>
  simp only[Ju,Yb]at h;rw[Ao,Zvp h.1,a h.2]
theorem qH{c x y:Operand}{ρ d:Operand->AV}{t:Bool}(e:ρ c=.d (.bool t))(b:d c=ren r (ρ c))(hx:t=true->d x=ren r (ρ x))(hy:t=false->d y=ren r (ρ y))(h:tV T H (.pick c x y) ρ g a K):
  A7 P H' (.pick c x y) d (KR r K):=by
 simp only[tV,e]at h;rw[e]at b;simp only[ren]at b;simp only[A7,b];rw[Zvc]at h;cases t
 ·exact .mk' h (by simp[hy rfl])
 ·exact .mk' h (by simp[hx rfl])
theorem eP{ρ a:Operand->AV}{xs:List Operand}(h:∀x∈xs,a x=ren r (ρ x)):xs.map a=Ao r (xs.map ρ):=by rw[FS,Jv];exact Fa h
theorem sg{ρ a:Operand->AV}{o:Option Operand}(h:∀x,o=some x->a x=ren r (ρ x)):o.map a=(o.map ρ).map (ren r):=by
 cases o with
 |none=>rfl
 |some x=>simp[h x rfl]
theorem rS{r:Ren}{b:Bool}{x y:AV}{a:AT}{K:AV->AT->Prop}(h:Ey b x y (λv=>K v a)):Ey b (ren r x) (ren r y) (KR r K):=by
 unfold Ey at h;split at h
 ·simp only[ren,Ey];exact .mk' h rfl
 grind
theorem Zv5(n:Ba P T)(C:DV r H H')(A:∀b,g=some b->b=true){op:Op}{ρ w:Operand->AV}(Y:∀x∈op.operands,w x=ren r (ρ x))(h:tV T H op ρ g a K):A7 P H' op w (KR r K):=by
 have get:∀{x:Operand},x∈op.operands->w x=ren r (ρ x):=λhx=>Y _ hx;cases op<;>simp only[tV]at h<;>try exact h.elim
 case move x=>exact .mk' h (get (by simp[Op.operands]))
 case assign x=>exact .mk' h (get (by simp[Op.operands]))
 case pick c x y=>
  split at h
  ·rename_i t l;exact qH (a:=a) (g:=g) (T:=T) (H:=H) l (get (by simp[Op.operands])) (λ_=>get (by simp[Op.operands])) (λ_=>get (by simp[Op.operands])) (by simp only[tV,l];exact h)
  ·grind
 case load t x=>
  split at h
  ·rename_i i hi;simp only[A7];rw[get (x:=x) (by simp[Op.operands])];exact dz (n _ _ hi) C A h
  ·grind
 case fieldAddr t x f=>
  split at h
  ·rename_i i hi;simp only[A7];rw[get (x:=x) (by simp[Op.operands])];exact Zie (n _ _ hi) C h
  ·grind
 case field t x f=>
  split at h
  ·rename_i i hi;simp only[A7];rw[get (x:=x) (by simp[Op.operands])];exact Zmm (n _ _ hi) h
  ·grind
 case indexAddr t x j=>
  split at h
  ·rename_i i hi;simp only[A7];rw[get (x:=x) (by simp[Op.operands]),get (x:=j) (by simp[Op.operands])];exact Zh1 (n _ _ hi) C A h
  ·grind
 case index t x j=>
  split at h
  ·rename_i i hi;simp only[A7];rw[get (x:=x) (by simp[Op.operands]),get (x:=j) (by simp[Op.operands])];exact ZlZ (n _ _ hi) A h
  ·grind
 case makeInterface t x=>
  split at h
  case h_2=>exact h.elim
  rename_i i hi;have E:(i.str||i.elm.isSome)=true->Kw P t=true:=uj (n _ _ hi);simp only[A7];rw[get (x:=x) (by simp[Op.operands])];split at h
  ·rename_i xs D hx;rw[hx];simp only[ren];split at h
   case h_2=>exact h.elim
   rename_i ds N;have e:=UP N;subst e;rw[Iq,N];exact⟨E D,.mk' h rfl⟩
  ·rename_i y D hx;rw[hx];simp only[ren];exact⟨E D,.mk' h rfl⟩
  ·exact h.elim
 case typeAssert x u t ok=>
  split at h
  case h_2=>exact h.elim
  rename_i i hi;have E:(i.str||i.elm.isSome)=true->Kw P t=true:=uj (n _ _ hi);simp only[A7];rw[get (x:=x) (by simp[Op.operands])];split at h
  case h_2=>exact h.elim
  rename_i u ds q D hx;rw[hx];simp only[ren];split at h
  case h_2=>exact h.elim
  rename_i v W F;rw[F];have G:ren r v=v:=by
   cases q with
   |true=>cases F;simp only[ren,Iq]
   |false=>
    match ds,F with
    |[d],F=>cases F;simp only[ren]
  refine⟨E D,Ye W,.mk' h ?_⟩;cases ok with
  |true=>simp only[cond,ren,Ao,G]
  |false=>exact G.symm
 case extract x j=>
  simp only[A7];rw[get (x:=x) (by simp[Op.operands])];split at h
  ·rename_i vs hx;rw[hx];simp only[ren,In];rw[Cp]at h;split at h
   ·rename_i y hy;rw[hy];exact .mk' h rfl
   grind
  ·grind
 case binOp o t x y u=>
  split at h
  ·rename_i i hi;simp only[A7];rw[get (x:=x) (by simp[Op.operands]),get (x:=y) (by simp[Op.operands])];exact ZqQ (n _ _ hi) C A h
  ·grind
 case unOp o t x=>simp only[A7];rw[get (x:=x) (by simp[Op.operands])];exact Zs6 A h
 case nilCheck x=>
  split at h
  ·rename_i k q off hx;split at h
   ·rename_i hl;simp only[A7];rw[get (x:=x) (by simp[Op.operands]),hx];obtain⟨g1,O,_,_,_⟩:=C.at hl;simp only[ren,Jx];exact⟨g1.symm▸rfl,O,.mk' h (by simp[ren])⟩
   grind
  ·rename_i cs off hx;simp only[A7];rw[get (x:=x) (by simp[Op.operands]),hx];simp only[ren,Jx];exact .mk' h (by simp[ren])
  ·grind
 case convert s d x=>
  split at h
  ·rename_i i j hi U;simp only[A7];rw[get (x:=x) (by simp[Op.operands])];exact ZnM (n _ _ hi) (n _ _ U) A h
  ·grind
 case makeFunc fn first B=>
  have m:first.toList.map w=Ao r (first.toList.map ρ):=eP λx hx=>get (by simp only[Op.operands,OS];exact .inl (by simpa using hx))
  have I:B.toList.map w=Ao r (B.toList.map ρ):=eP λx hx=>get (by simp only[Op.operands,OS];exact .inr (by simpa using hx));simp only[A7];rw[m,I];split at h
  ·grind
  ·rename_i L;refine .mk' h ?_;cases fn<;>first|exact absurd rfl (L _)|simp[ren]
 case slice t x lo hi mx=>
  split at h
  ·rename_i i J;simp only[A7];rw[get (x:=x) (by simp[Op.operands]),sg (o:=lo) (λy hy=>get (by subst hy;simp[Op.operands])),sg (o:=hi) (λy hy=>get (by subst hy;simp[Op.operands]))];exact Zmh (n _ _ J) C A h
  ·grind
 case build t parts=>
  split at h
  ·rename_i i hi E;simp only[A7];have e:(parts.toList.map λp=>(p.1,w p.2))=(parts.toList.map λp=>(p.1,ρ p.2)).map λp=>(p.1,ren r p.2):=(by rw[Jv];refine Fa λp M=>?_;simp only[Function.comp];rw[get (x:=p.2) (by simp only[Op.operands,OT,YV];exact⟨p,M,rfl⟩)]);rw[e];refine Zmt (n _ _ hi) (λp M=>?_) (λz X=>Lx ((n _ _ hi).flt z X)) h;obtain⟨q,hq,rfl⟩:=YV.1 M;grind
  ·grind
 case lookup t x y Z=>
  split at h
  ·rename_i i hi;simp only[A7];rw[get (x:=x) (by simp[Op.operands]),get (x:=y) (by simp[Op.operands])];exact Zno (n _ _ hi) C A h
  ·grind
 case call c=>
  split at h
  ·rename_i x t l hx V;split at h
   ·rename_i i hi;have m:c.args=#[x]:=C8 (by simpa using hx);have I:c.argTypes=#[t]:=C8 (by simpa using V);simp only[A7,l,m,I];show 1=1/\D8 P H' t (w x) (KR r K);rw[get (x:=x) (by simp[Op.operands,Call.operands,l,m])];exact⟨rfl,Zqk (n _ _ hi) C A h⟩
   grind
  ·rename_i x y l hx;have m:c.args=#[x,y]:=C8 (by simpa using hx);simp only[A7,l,m];show Ey false (w x) (w y) (KR r K);rw[get (x:=x) (by simp[Op.operands,Call.operands,l,m]),get (x:=y) (by simp[Op.operands,Call.operands,l,m])];exact rS h
  ·rename_i x y l hx;have m:c.args=#[x,y]:=C8 (by simpa using hx);simp only[A7,l,m];show Ey true (w x) (w y) (KR r K);rw[get (x:=x) (by simp[Op.operands,Call.operands,l,m]),get (x:=y) (by simp[Op.operands,Call.operands,l,m])];exact rS h
  ·rename_i x y z l hx;have m:c.args=#[x,y,z]:=C8 (by simpa using hx);simp only[A7,l,m];show HJ true (w x) (w y) (w z) (KR r K);rw[get (x:=x) (by simp[Op.operands,Call.operands,l,m]),get (x:=y) (by simp[Op.operands,Call.operands,l,m]),get (x:=z) (by simp[Op.operands,Call.operands,l,m])];unfold HJ at h;split at h
   ·rename_i Q R S;rw[Q,R,S];simp only[ren,HJ];exact .mk' h rfl
   grind
  ·grind
end
abbrev C6:=List (Nat×Bool)
abbrev BI:=List (Nat×C6)
def lk:BI->Nat->C6
 |[],_=>[]
 |(i,c)::r,j=>match Nat.beq i j with|true=>c|false=>lk r j
def O4(t:Bool):Bool->Bool
 |true=>t
 |false=>!t
theorem dY{t b:Bool}:O4 t b=true↔t=b:=by cases t<;>cases b<;>simp[O4]
def K5:C6->C6->Bool
 |[],[]=>true
 |(i,a)::r,(j,b)::q=>Nat.beq i j&&O4 a b&&K5 r q
 |_,_=>false
theorem eO:∀{a b:C6},K5 a b=true->a=b
 |[],[],_=>rfl
 |(i,a)::r,(j,b)::q,h=>by simp only[K5,Yb]at h;rw[Ye h.1.1,dY.1 h.1.2,eO h.2]
 |[],_::_,h=>by simp[K5]at h
 |_::_,[],h=>by simp[K5]at h
def SQ(a:C6):C6->Bool
 |[]=>K5 a []
 |q::b=>K5 a (q::b)||SQ a b
theorem sw{a:C6}:∀{b:C6},SQ a b=true->∀q∈a,q∈b
 |[],h,q,c=>by rw[eO h]at c;exact c
 |p::b,h,q,c=>by
  simp only[SQ,YB]at h;rcases h with h|h
  ·rw[eO h]at c;exact c
  ·exact YH _ (sw h q c)
def C7(s:Nat->AV)(c:C6):Prop:=∀q∈c,s q.1=.d (.bool q.2)
def GI(s:Nat->AV):C6->Option Bool
 |[]=>some true
 |[(d,b)]=>match s d with|.d (.bool t)=>some (O4 t b)|_=>none
 |(d,b)::r=>match s d,GI s r with|.d (.bool t),some c=>some (c&&O4 t b)|_,_=>none
theorem JV{s:Nat->AV}:∀{c:C6} {g:Bool},GI s c=some g->(g=true↔C7 s c)
 |[],g,h=>by simp only[GI,Yn]at h;subst h;simp[C7]
 |[(d,b)],g,h=>by
  simp only[GI]at h;split at h
  ·rename_i t f;simp only[Yn]at h;subst h;rw[dY];simp[C7,f]
  ·cases h
 |(d,b)::q::r,g,h=>by
  simp only[GI]at h;split at h
  ·rename_i t c f i;simp only[Yn]at h;subst h;have j:=JV i;rw[Yb,j,dY];constructor
   ·rintro⟨e,rfl⟩ p a;rcases Yy.1 a with rfl|a
    ·exact f
    ·exact e p a
   ·intro e;refine⟨λp a=>e p (YH _ a),?_⟩;have:=e (d,b) (YJ ..);grind
  ·cases h
def L0(e:Nat)(c:C6):Bool:=c.all λq=>!Nat.beq q.1 e
def fresh(e:Nat)(env:BI):Bool:=env.all λp=>L0 e p.2
theorem si{s:Nat->AV}{e:Nat}{v:AV}{c:C6}(h:L0 e c=true):C7 (upd s e v) c↔C7 s c:=by
 have key:∀q∈c,upd s e v q.1=s q.1:=λq a=>by have:=Yu.1 h q a;unfold upd;rw[Yk];intro he;subst he;simp at this
 constructor
 ·exact λh q a=>(key q a)▸h q a
 ·exact λh q a=>(key q a).trans (h q a)
theorem sp{e:Nat}:∀{env:BI},fresh e env=true->∀j,L0 e (lk env j)=true
 |[],_,j=>rfl
 |(i,c)::r,h,j=>by
  simp only[fresh,Ju,Yb]at h;simp only[lk];split
  ·exact h.1
  ·exact sp h.2 j
theorem fd{env:BI}{e:Nat}{c:C6}(j:Nat):lk ((e,c)::env) j=if j=e then c else lk env j:=by
 simp only[lk];by_cases h:j=e
 ·subst h;simp
 ·rw[Yk h];split
  ·rename_i a;exact absurd (Ye a).symm h
  ·rfl
def Jd(env:BI)(c:C6):Operand->Bool
 |.tmp t=>SQ (lk env t) c
 |_=>true
def Cr(env:BI)(c:C6):Op->Bool
 |.pick (.tmp d) x y=>Jd env c (.tmp d)&&Jd env ((d,true)::c) x&&Jd env ((d,false)::c) y
 |op=>op.operands.toList.all (Jd env c)
structure RenOk (r:Ren) (l outs:Nat):Prop where
 own:∀d,r.κ (1,d)=(l+1,d)
 out:∀i,i<outs->(r.κ (0,i)).1<=l
 inj:∀i j,i<outs->j<outs->r.κ (0,i)=r.κ (0,j)->i=j
 no:∀k,r.no k->∃i,i<outs/\r.κ (0,i)=k
structure RG (r:Ren) (l outs:Nat) (env:BI) (τ σ:St):Prop where
 s:∀j,(C7 τ.s (lk env j)->σ.s j=ren r (τ.s j))/\(¬C7 τ.s (lk env j)->σ.s j=.tup [])
 h:DV r τ.H σ.H
 g:∀d,(σ.H (l+1,d)).g=r.γ (1,d)+(τ.H (1,d)).g
 go:∀i,i<outs->(σ.H (r.κ (0,i))).g=r.γ (0,i)+(τ.H (0,i)).g
 k:∀k,(τ.H k).live=true->k.1=1\/(k.1=0/\k.2<outs)
 o:∀k:Ad,k.1<=l->¬r.no k->σ.H k=r.H0 k
def Hw(P:Program)(l:Nat)(r:Ren)(f:FuncId)(xs:List AV)(c:List (Ad×Blk))(x:AV):Prop:=
 ∀a,(∀p∈c,p.2.live=true->a (r.κ p.1)=AJ r p.1 p.2)->(∀k:Ad,k.1<=l->¬r.no k->a k=r.H0 k)->Zc0 P f (l+1) (Ao r xs) a (λy b=>y=ren r x/\b=a)
def N0(P:Program)(l:Nat)(r:Ren)(i:Nat)(xs:List AV)(d:List (Ad×Blk))(x:AV):Prop:=
 ∃f first a,r.θ i=.fn (.func f) first a/\∀b,(∀p∈d,p.2.live=true->b (r.κ p.1)=AJ r p.1 p.2)->(∀k:Ad,k.1<=l->¬r.no k->b k=r.H0 k)->Zc0 P f (l+1) (first++Ao r xs++a) b (λy c=>y=ren r x/\c=b)
def We(P:Program)(l:Nat)(r:Ren)(H:Hp)(f:AV)(xs:List AV)(g:Option Bool)(a:AT)(K:AV->AT->Prop):Prop:=
 match f,a with
 |.fn (.func i) first b,.call x ks a=>Bm g (Hw P l r i (first++xs++b) (ks.map λk=>(k,H k)) x)/\K x a
 |.fn (.yield i) _ _,.call x ks a=>Bm g (N0 P l r i xs (ks.map λk=>(k,H k)) x)/\K x a
 |_,_=>False
def WP(T:Nat->Option TI)(τ:St)(t:TypeId)(len:Nat)(parts:List (Nat×Operand))(a:AT)(K:AV->AT->Prop):Prop:=
 match T t with
 |some i=>(match i.elm with
  |some (e,sz)=>(match Nat.ble 1 sz,len with
   |true,0=>(match parts with|[]=>K .e0 a|_=>False)
   |true,len+1=>(match T e,Nat.ble ((len+1)*sz) 16777216 with
    |some j,true=>(match j.zer with
     |some z=>(match Nat.beq z.length sz,Gh sz 0 (parts.map λp=>(p.1,ev τ.s p.2))with
      |true,some es=>(match Nat.beq es.length (len+1)with|true=>K (.d (.list es)) a|false=>False)
      |_,_=>False)
     |none=>False)
    |_,_=>False)
   |_,_=>False)
  |none=>False)
 |none=>False
def pV(P:Program)(T:Nat->Option TI)(l:Nat)(r:Ren)(τ:St)(op:Op)(g:Option Bool)(a:AT)(K:AV->AT->Prop):Prop:=
 match op with
 |.call c=>match c.callee with
  |.value f=>We P l r τ.H (ev τ.s f) (c.args.toList.map (ev τ.s)) g a K
  |_=>tV T τ.H op (ev τ.s) g a K
 |.buildSlice t len parts=>WP T τ t len parts.toList a K
 |op=>tV T τ.H op (ev τ.s) g a K
def Fq(n d:Nat)(K:St->AT->Prop)(τ:St)(v:AV)(a:AT):Prop:=
 match Nat.ble (d+1) n with
 |true=>K ⟨upd τ.s d v,τ.H⟩ a
 |false=>False
section
variable {P:Program} {T:Nat->Option TI} {r:Ren} {l n outs:Nat} {env:BI} {τ σ:St} {g:Option Bool} {a:AT} {c:C6}
theorem ZIX(v:Value):ren r (cv v)=cv v:=by unfold cv;split<;>simp[ren]
theorem LJ(h:RG r l outs env τ σ)(hs:C7 τ.s c){x:Operand}(hx:Jd env c x=true):ev σ.s x=ren r (ev τ.s x):=by
 cases x with
 |tmp t=>exact(h.s t).1 λq a=>hs q (sw hx q a)
 |const v=>exact(ZIX v).symm
 |global g=>simp[ev,ren]
 |func f=>simp[ev,ren,Ao]
theorem GF(h:RG r l outs env τ σ)(hs:C7 τ.s c){op:Op}(hx:op.operands.toList.all (Jd env c)=true):∀x∈op.operands,ev σ.s x=ren r (ev τ.s x):=
 λx hm=>LJ h hs (Yu.1 hx x (by simpa using hm))
theorem uS(s:Ba P T)(h:RG r l outs env τ σ)(hs:C7 τ.s c)(u:∀b,g=some b->b=true){op:Op}(hx:Cr env c op=true){K:AV->AT->Prop}(i:tV T τ.H op (ev τ.s) g a K):
  A7 P σ.H op (ev σ.s) (KR r K):=by
 unfold Cr at hx;split at hx
 ·rename_i d x y;simp only[Yb]at hx;obtain⟨⟨n,o⟩,p⟩:=hx;have f:=i;simp only[tV]at f;split at f
  ·rename_i t k;have m:=LJ h hs n;refine qH (T:=T) (H:=τ.H) (g:=g) (a:=a) k m (λe=>LJ h (c:=(d,true)::c) ?_ o) (λe=>LJ h (c:=(d,false)::c) ?_ p) i
   all_goals
    subst e;intro q j;rcases Yy.1 j with rfl|j
    ·exact k
    ·exact hs q j
  grind
 ·exact Zv5 s h.h u (GF h hs hx) i
theorem dU(h:RG r l outs env τ σ)(hs:C7 τ.s c)(s:∀b,g=some b->b=true){cl:Call}{f:Operand}(o:cl.callee=.value f)(hx:Cr env c (.call cl)=true){K:AV->AT->Prop}
  (e:We P l r τ.H (ev τ.s f) (cl.args.toList.map (ev τ.s)) g a K):
  ∃i first d x j,ev σ.s f=.fn (.func i) first d/\Zc0 P i (l+1) (first++cl.args.toList.map (ev σ.s)++d) σ.H (λy t=>y=ren r x/\t=σ.H)/\K x j:=by
 have hx:(Op.call cl).operands.toList.all (Jd env c)=true:=hx;have q:=GF h hs hx f (by simp[Op.operands,Call.operands,o]);have m:cl.args.toList.map (ev σ.s)=Ao r (cl.args.toList.map (ev τ.s)):=eP λx hm=>GF h hs hx x (by simp only[Op.operands,Call.operands,o,OS];exact .inr (by simpa using hm));have n:∀ks:List Ad,∀p∈ks.map λk=>(k,τ.H k),p.2.live=true->σ.H (r.κ p.1)=AJ r p.1 p.2:=λks p e hl=>by obtain⟨k,A,rfl⟩:=YV.1 e;exact h.h k hl
 unfold We at e;split at e
 ·rename_i i first d x ks j he
  have v:Hw _ _ _ _ _ _ _:=Bw s e.1;refine⟨i,Ao r first,Ao r d,x,j,by rw[q,he];simp[ren],?_,e.2⟩;rw[m,<-Hn,<-Hn];exact v σ.H (n ks) h.o
 ·rename_i i xs ys x ks j he;obtain⟨u,first,d,w,z⟩:N0 _ _ _ _ _ _ _:=Bw s e.1;refine⟨u,first,d,x,j,by rw[q,he];simp[ren,w],?_,e.2⟩;rw[m];exact z σ.H (n ks) h.o
 grind
theorem RG.put(h:RG r l outs env τ σ){e:Nat}{ch:C6}(b:fresh e env=true)(c:L0 e ch=true){v:AV}{y:AV}(hy:C7 τ.s ch->y=ren r v)(d:¬C7 τ.s ch->y=.tup []):
  RG r l outs ((e,ch)::env) ⟨upd τ.s e v,τ.H⟩ ⟨upd σ.s e y,σ.H⟩:=by
 refine⟨λj=>?_,h.h,h.g,h.go,h.k,h.o⟩;simp only;rw[fd];by_cases a:j=e
 ·subst a;rw[Ym rfl,si c];simp only[upd,Yp];grind
 ·rw[Yk a,si (sp b j)];simp only[upd,Yk a];exact h.s j
end
section
variable {P:Program} {l n:Nat} {H:Hp} {m:Mu} {S:Nat->Prop} {w w':World} {s:Nat->AV} {a:Act}
theorem Ok.allocO(h:Ok l H m S w)(k:Ad)(O:k.1<=l)(b:Blk)(K:b.e.isO=true)(u:b.cells=[])(N:(H k).g<b.g)(o:Obj)(D:w'.heap=w.heap.push o)
  (J:JI w' S w.heap.size b.e) (F:w'.os=w.os) (G:w'.tape=w.tape) (I:w'.output=w.output):
  Ok l (updH H k b) (Bb m k ⟨w.heap.size,0,0⟩) S w'/\Ext l H m S w (updH H k b) (Bb m k ⟨w.heap.size,0,0⟩) S w':=by
 have d:∀i,i<w.heap.size->w'.heap[i]?=w.heap[i]?:=λi hi=>by rw[D,Ml,Yk ae]
 have j:Ext l H m S w (updH H k b) (Bb m k ⟨w.heap.size,0,0⟩) S w':=by
  refine⟨λ_ h=>h,λi hi=>d i (h.sub i hi),λq a=>?_,λq a y hl=>?_,F,G,I,by rw[D];simp⟩
  ·by_cases e:q=k
   ·subst e;rw[AS];omega
   ·rw[AF _ _ e];exact Yf _
  ·by_cases e:q=k
   ·subst e;rw[AS]at y;omega
   ·rw[AF _ _ e]at hl⊢;rw[AZ _ _ e];exact⟨hl,rfl,rfl⟩
 have B:∀q:Ad,q.1<=l->(H q).live=true->(m q).cap≠0->(m q).b<w.heap.size:=λq a hl n=>by obtain⟨C,t,_⟩:=h.blk q a hl n;grind
 have A:∀q:Ad,q.1<=l->(H q).live=true->(H q).e.isO=true->(m q).b<w.heap.size:=λq a hl n=>by obtain⟨C,t,_⟩:=(h.mp.o q a hl).at n;grind
 refine⟨⟨λi hi=>?_,λq a hl c=>?_,λq a hl c=>?_,λq s a r hl f c g heq=>?_,λq a hl c=>?_,
  ⟨λq a hl=>?_,λq a hl he=>?_,λq s a r hl f he p heq=>?_⟩⟩,j⟩
 ·have:=h.sub i hi;rw[D];simp;omega
 ·by_cases e:q=k
  ·subst e;rw[AS];exact u
  ·rw[AF _ _ e]at hl⊢;rw[AZ _ _ e]at c;exact h.empty q a hl c
 ·by_cases e:q=k
  ·subst e;rw[A3]at c;exact absurd rfl c
  ·rw[AF _ _ e]at hl;rw[AZ _ _ e]at c⊢;exact h.fresh q a hl c
 ·by_cases e:q=k
  ·subst e;rw[A3]at c;exact absurd rfl c
  ·by_cases e':s=k
   ·subst e';rw[A3]at g;exact absurd rfl g
   ·rw[AZ _ _ e,AZ _ _ e']at heq;rw[AF _ _ e]at hl;rw[AF _ _ e']at f;rw[AZ _ _ e]at c;rw[AZ _ _ e']at g;exact h.inj q s a r hl f c g heq
 ·by_cases e:q=k
  ·subst e;rw[A3]at c;exact absurd rfl c
  ·rw[AF _ _ e]at hl⊢;rw[AZ _ _ e]at c⊢;obtain⟨C,t,hs,z,hx⟩:=h.blk q a hl c;refine⟨C,by rw[d _ (B q a hl c)];exact t,hs,z,λi x v hi M=>?_⟩;obtain⟨E,g2⟩:=hx i x v hi M;exact⟨E,g2.ext j a⟩
 ·by_cases e:q=k
  ·subst e;rw[AS,A3];exact J
  ·rw[AF _ _ e]at hl⊢;rw[AZ _ _ e];exact(h.mp.o q a hl).mono (λ_ h=>h) (λi hi=>d i (h.sub i hi)) (λL=>d _ (A q a hl L))
 ·by_cases e:q=k
  ·subst e;rw[A3];exact⟨⟨rfl,rfl⟩,λhs=>by have:=h.sub _ hs;simp at this⟩
  ·rw[AF _ _ e]at hl he;rw[AZ _ _ e];exact h.mp.c q a hl he
 ·by_cases e:q=k<;>by_cases e':s=k
  ·grind
  ·subst e;rw[A3,AZ _ _ e']at heq;rw[AF _ _ e']at f p;grind
  ·subst e';rw[A3,AZ _ _ e]at heq;rw[AF _ _ e]at hl he;grind
  ·rw[AZ _ _ e,AZ _ _ e']at heq;rw[AF _ _ e]at hl he;rw[AF _ _ e']at f p;exact h.mp.i q s a r hl f he p heq
theorem Ok.writeO(h:Ok l H m S w)(k:Ad)(y:k.1<=l)(hl:(H k).live=true)(t:(H k).e.isO=true)(e':EK)(n:e'.isO=true)(o:Obj)
  (F:∀b,w'.heap[b]?=if b=(m k).b then some o else w.heap[b]?) (B:w'.heap.size=w.heap.size) (L:JI w' S (m k).b e') (I:w'.os=w.os) (J:w'.tape=w.tape) (K:w'.output=w.output):
  Ok l (updH H k {H k with e:=e' }) m S w'/\Ext l H m S w (updH H k {H k with e:=e' }) m S w':=by
 obtain⟨Q,R⟩:=h.mp.c k y hl t;have j:Ext l H m S w (updH H k {H k with e:=e' }) m S w':=by
  refine⟨λ_ h=>h,λb s=>?_,λq d=>?_,λq d T a=>?_,I,J,K,ae⟩
  ·grind
  ·by_cases e:q=k
   ·subst e;rw[AS];exact Yf _
   ·rw[AF _ _ e];exact Yf _
  ·by_cases e:q=k
   ·subst e;rw[AS]at a⊢;exact⟨a,rfl,rfl⟩
   ·rw[AF _ _ e]at a⊢;exact⟨a,rfl,rfl⟩
 have f:∀q:Ad,(updH H k {H k with e:=e' } q).live=(H q).live:=λq=>by
  by_cases e:q=k
  ·subst e;rw[AS]
  ·rw[AF _ _ e]
 have g:∀q:Ad,(H q).e.isO=(updH H k {H k with e:=e' } q).e.isO:=λq=>by
  by_cases e:q=k
  ·subst e;rw[AS];exact t.trans n.symm
  ·rw[AF _ _ e]
 refine⟨⟨λb s=>?_,λq d a r=>?_,λq d a r=>?_,λq E d p a c r D heq=>?_,λq d a r=>?_,
  ⟨λq d a=>?_,λq d a he=>?_,λq E d p a c he n heq=>?_⟩⟩,j⟩
 ·rw[B];exact h.sub b s
 ·rw[f]at a;have:=h.empty q d a r;by_cases e:q=k
  ·subst e;rw[AS];exact this
  ·rw[AF _ _ e];exact this
 ·rw[f]at a;exact h.fresh q d a r
 ·rw[f]at a c;exact h.inj q E d p a c r D heq
 ·rw[f]at a;by_cases e:q=k
  ·grind
  ·rw[AF _ _ e];obtain⟨C,s,hs,z,hx⟩:=h.blk q d a r;have A:(m q).b≠(m k).b:=λu=>by obtain⟨U,O,P⟩:=(h.mp.o k y hl).at t;rw[u,O]at s;cases s;cases P
   refine⟨C,by rw[F,Yk A];exact s,hs,z,λi x v hi N=>?_⟩;obtain⟨G,g2⟩:=hx i x v hi N;exact⟨G,g2.ext j d⟩
 ·rw[f]at a;by_cases e:q=k
  ·subst e;rw[AS];exact L
  ·rw[AF _ _ e];refine(h.mp.o q d a).mono (λ_ h=>h) j.blk (λM=>?_);rw[F,Yk (λu=>e (h.mp.i q k d y a hl M t u))]
 ·rw[f]at a;rw[<-g]at he;exact h.mp.c q d a he
 ·rw[f]at a c;rw[<-g]at he n;exact h.mp.i q E d p a c he n heq
theorem MEnt.push{q:Bool}{es:List (List D)}{ents:Array MapEntry}{a:Nat}{s:ByteArray}{ds:List D}{v:Value}(h:MEnt w S q es ents a)(g:VR w S q ds v):
  MEnt w S q (es++[.str s::ds]) (ents.push {key:=.string s,val:=v,born:=a }) (a+1):=by
 have b:∀(i:Nat) (y:MapEntry),(ents.push {key:=.string s,val:=v,born:=a })[i]?=some y->(i=ents.size/\y={key:=.string s,val:=v,born:=a })\/(i≠ents.size/\ents[i]?=some y):=λi y hy=>by grind
 refine⟨by simp[h.n],λi k y z hy j e=>?_,λi y hy=>?_,λi e y hi hy=>?_⟩
 ·rcases b i y hy with⟨rfl,rfl⟩|⟨a1,c⟩<;>rcases b k z j with⟨rfl,rfl⟩|⟨l,f⟩
  ·rfl
  ·have:=h.clk k z f;simp only at e;omega
  ·have:=h.clk i y c;simp only at e;omega
  ·exact h.born i k y z c f e
 ·rcases b i y hy with⟨rfl,rfl⟩|⟨a1,c⟩
  ·grind
  ·exact Xu (h.clk i y c)
 ·rcases b i y hy with⟨rfl,rfl⟩|⟨a1,c⟩
  ·rw[h.n,YK (Yf _),Nat.sub_self]at hi;cases hi;exact⟨s,ds,rfl,rfl,g⟩
  ·have d:i<es.length:=(by rw[<-h.n];exact Lt c);rw[Yw d]at hi;exact h.e i e y hi c
end
end Go.Eng
