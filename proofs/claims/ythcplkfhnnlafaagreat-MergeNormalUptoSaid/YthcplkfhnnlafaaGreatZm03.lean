import Derived.Test.YthcplkfhnnlafaaGreatZm02
import Derived.KernelRfl
import Derived.Still
import Derived.IntWalk
import Derived.Test.YthcplkfhnnlafaaGreatZm00
namespace Go.Eng
set_option linter.all false
open Go Go.RowKit
def args(xs:List AV):Nat->AV:=λi=>(xs[i]?).getD .top
def DO(l:Nat)(H:Hp):Hp:=λk=>if k.1<=l then H k else⟨0,false,0,0,[]⟩
def JS(l:Nat)(H' H:Hp):Hp:=λk=>if k.1<=l then H' k else H k
def Fo(P:Program)(σ:St):List ResultVar->(List AV->Prop)->Prop
 |[],K=>K []
 |.tmp t::b,K=>Fo P σ b (λxs=>K (σ.s t::xs))
 |.cell a t::b,K=>Fl P σ.H t (σ.s a) (λx=>Fo P σ b (λxs=>K (x::xs)))
def D5:List AV->AV
 |[x]=>x
 |xs=>.tup xs
inductive Fz (H:Hp) (l:Nat):AV->AV->Prop
 |keep (x:AV) (h:x.low l=true):Fz H l x x
 |e0:Fz H l .e0 (.d (.list []))
 |mp (k:Ad) (a:Bool) (es:List (List D)) (hk:k.1=l+1) (hl:(H k).live=true) (he:(H k).e=.m a es):Fz H l (.mp k (H k).g) (.d (.map a es))
 |ref (k:Ad) (off n:Nat) (es:List (List D)) (hk:k.1=l+1) (hl:(H k).live=true) (hn:es.length=n) (hz:(H k).sz≠0) (he:∀e,e∈es->e.length=(H k).sz)
   (hlen:(off+n)*(H k).sz<=(H k).cells.length)
   (h:∀(i j:Nat) (e:List D) (d:D) (x:AV),es[i]?=some e->e[j]?=some d->(H k).cells[(off+i)*(H k).sz+j]?=some x->Fz H l x (.d d)):
   Fz H l (.ref k (H k).g off n) (.d (.list es))
 |agg (xs ys:List AV) (hl:xs.length=ys.length) (h:∀(i:Nat) (x y:AV),xs[i]?=some x->ys[i]?=some y->Fz H l x y):Fz H l (.agg xs) (.agg ys)
 |tup (xs ys:List AV) (hl:xs.length=ys.length) (h:∀(i:Nat) (x y:AV),xs[i]?=some x->ys[i]?=some y->Fz H l x y):Fz H l (.tup xs) (.tup ys)
def uF(P:Program)(fn:Func)(l:Nat)(H:Hp)(a:AV->Hp->Prop):Exit->St->Prop:=λe σ=>
 (e=.normal\/e=.ret)/\Fo P σ fn.results.toList (λxs=>∃y,Fz σ.H l (D5 xs) y/\a y (JS l σ.H H))
section
variable {P:Program} {l n:Nat} {B:Base} {H H':Hp} {m m':Mu} {S S':Nat->Prop} {w w':World} {s:Nat->AV} {a:Act} {K:St->Prop} {o:Oper} {σ:St} {Q:Exit->St->Prop}
theorem ZqD{t:TypeId}{v b:Value}(h:(Instr.loadAt t v).run P w=.ok b w):(do loadVar t (<-asAddr v):Sem Value).run P w=.ok b w:=by
 cases v<;>try (simp[Instr.loadAt,Instr.sureAddr]at h;done)
 rename_i p;cases p with
 |none=>simp[Instr.loadAt,Instr.sureAddr]at h
 |some a=>simpa[Instr.loadAt,Instr.sureAddr,asAddr]using h
def P3(tmps:Array Value):ResultVar->Sem Value
 |.tmp t=>pure (tmps.getD t undef)
 |.cell p t=>do loadVar t (<-asAddr (tmps.getD p undef))
theorem fW(k:Ok (l+1) H m S w)(c:Di (l+1) s H m S a w):∀(rs:List ResultVar) (K:List AV->Prop),Fo P ⟨s,H⟩ rs K->
  ∃(vs:List Value) (xs:List AV),(rs.mapM (P3 a.tmps)).run P w=.ok vs w/\xs.length=vs.length/\
   (∀(i:Nat) (x:AV) (v:Value),xs[i]?=some x->vs[i]?=some v->RepA w S H m (l+1) x v)/\K xs
 |[],K,h=>⟨[],[],by simp,rfl,λi x v h=>by simp at h,h⟩
 |.tmp t::b,K,h=>by
  obtain⟨vs,xs,f,g,n,j⟩:=fW k c b _ h;refine⟨a.tmps.getD t undef::vs,s t::xs,by simp only[TG,P3,Sem.run_bind,Sem.run_pure,Result.andThen_ok,f],by simp[g],λi x v hx d=>?_,j⟩;cases i with
  |zero=>simp at hx d;subst hx;subst d;simpa using c t
  |succ i=>exact n i x v (by simpa using hx) (by simpa using d)
 |.cell p t::b,K,h=>by
  obtain⟨v0,r,o,u,q⟩:=vX h (c p) k;obtain⟨vs,xs,f,g,n,j⟩:=fW k c b _ q;refine⟨v0::vs,r::xs,?_,by simp[g],λi x v hx d=>?_,j⟩
  ·have:=ZqD o;have e:(P3 a.tmps (.cell p t)).run P w=.ok v0 w:=this;simp only[TG,Sem.run_bind,e,Sem.run_pure,Result.andThen_ok,f]
  grind
def OU(l:Nat)(H:Hp)(m:Mu)(S:Nat->Prop):Nat->Prop:=λb=>S b\/∃k:Ad,k.1=l+1/\(H k).live=true/\((m k).cap≠0\/(H k).e.isO=true)/\b=(m k).b
theorem Ok.fin(h:Ok (l+1) H m S w):Ok l H m (OU l H m S) w/\Ext l H m S w H m (OU l H m S) w:=by
 have n:Ext (l+1) H m S w H m (OU l H m S) w:=⟨λ_ h=>.inl h,λ_ _=>rfl,λ_ _=>Yf _,λ_ _ _ h=>⟨h,rfl,rfl⟩,rfl,rfl,rfl,Yf _⟩;refine⟨⟨λb c=>?_,λq u=>h.empty q ae,λq u hl g=>?_,λq z u y=>h.inj q z ae ae,λq u hl g=>?_,
  ⟨λk p j=>(h.mp.o k ae j).mono (λ_ h=>.inl h) (λ_ _=>rfl) (λ_=>rfl),λk p j he=>?_,λk k' p s=>h.mp.i k k' ae ae⟩⟩,n.mono ae⟩
 ·rcases c with c|⟨k,p,hl,g,rfl⟩
  ·exact h.sub b c
  ·rcases g with g|g
   ·obtain⟨C,c,_⟩:=h.blk k ae hl g;grind
   ·obtain⟨o,c,_⟩:=(h.mp.o k ae hl).at g;grind
 ·rintro(hs|⟨k,p,f,a,e⟩)
  ·exact h.fresh q ae hl g hs
  ·rcases a with a|a
   ·have:=h.inj q k ae ae hl f g a e;grind
   ·obtain⟨o,c,r⟩:=(h.mp.o k ae f).at a;obtain⟨C,d,_⟩:=h.blk q ae hl g;rw[e,c]at d;cases d;cases r
 ·obtain⟨C,c,hs,t,hx⟩:=h.blk q ae hl g;exact⟨C,c,hs,t,λi x v hi j=>⟨(hx i x v hi j).1,(hx i x v hi j).2.ext n ae⟩⟩
 ·refine⟨(h.mp.c k ae j he).1,?_⟩;rintro(hs|⟨k',s,f,a,e⟩)
  ·exact(h.mp.c k ae j he).2 hs
  ·rcases a with a|a
   ·obtain⟨o,c,r⟩:=(h.mp.o k ae j).at he;obtain⟨C,d,_⟩:=h.blk k' ae f a;rw[<-e,c]at d;cases d;cases r
   ·have:=h.mp.i k k' ae ae j f he a e;grind
theorem Fz.sound{x y:AV}(h:Fz H l x y)(Q:Ok (l+1) H m S w):∀{v:Value},RepA w S H m (l+1) x v->RepA w (OU l H m S) H m l y v:=by
 have t:Ext (l+1) H m S w H m (OU l H m S) w:=⟨λ_ h=>.inl h,λ_ _=>rfl,λ_ _=>Yf _,λ_ _ _ h=>⟨h,rfl,rfl⟩,rfl,rfl,rfl,Yf _⟩
 induction h with
 |keep x h=>exact λhx=>(hx.ext t (Yf _)).low h
 |e0=>
  intro v hx;cases hx with
  |e0 N=>exact(RepA.e0 N).e0_d
 |mp k a es I hl he=>
  intro v hx;generalize F:(H k).g=g at hx;cases hx with
  |mpD _ _ _ p G s o=>rw[s F.symm]at hl;cases hl
  |mpL _ p q=>
   have U:=Q.mp.o k ae hl;rw[he]at U;obtain⟨ents,A,o,O⟩:=U;exact .d _ _ (.ofM (.inr ⟨k,I,hl,.inr (by rw[he];rfl),rfl⟩) o (O.mono (λ_ h=>.inl h) (λ_ _=>rfl)))
 |ref k off n es I hl J hz he f h u=>
  intro v hx;generalize F:(H k).g=g at hx;cases hx with
  |refD _ _ _ _ _ p G s o=>rw[s F.symm]at hl;cases hl
  |refL _ _ _ N p q T R=>
   by_cases K:n=0
   ·subst K;have:es=[]:=J4 J;subst this;cases N with
    |none=>
     have e:(m k).cap-off=0:=by
      rcases YN off (m k).cap with h|h
      ·have:=R h;cases this
      ·omega
     rw[e];exact .d _ _ .nil
    |some ad=>exact .d _ _ (.list [] ad 0 _ (λ_ _=>.bool true) (λh=>absurd rfl h) (B8 _) (λ_ h=>by cases h) (λi j e x h=>by simp at h) (λi j e x h=>by simp at h))
   ·have L:=R ae;subst L;obtain⟨E,C,o,O,Z,P⟩:=Q.row (k:=k) ae hl (by intro e;rw[e,Y3]at f;have:=TY (show 0<n by omega) (show 0<(H k).sz by omega);simp at f;omega);have r:∀(i j:Nat) (e:List D) (d:D),es[i]?=some e->e[j]?=some d->(off+i)*(H k).sz+j<(H k).cells.length:=by
     intro i j e d hi c;have W:i<n:=by
      rw[<-J];rcases YN i es.length with h|h
      ·exact h
      ·rw[YX h]at hi;cases hi
     have X:j<(H k).sz:=by
      rw[<-he e (Yg hi)];rcases YN j e.length with h|h
      ·exact h
      ·rw[YX h]at c;cases c
     have:(off+i+1)*(H k).sz<=(off+n)*(H k).sz:=EG _ ae;rw[Y3 (off+i)]at this;omega
    have:=RepD.list (w:=w) (S:=OU l H m S) es ⟨(m k).b,(m k).o+off*(H k).sz,none⟩ (H k).sz ((m k).cap-off) (λi j=>(C[(m k).o+((off+i)*(H k).sz+j)]?).getD undef)
     (λ_=>.inr ⟨k,I,hl,.inl E,rfl⟩) ae he
     (λi j e d hi c=>by obtain⟨v,z,_,_⟩:=P _ _ (Ye (r i j e d hi c));rw[Addr.add_lit,KX o,z];rw[show(m k).o+off*(H k).sz+(i*(H k).sz+j)=(m k).o+((off+i)*(H k).sz+j)from by rw[Y3];omega,z];rfl)
     (λi j e d hi c=>by
      obtain⟨v,z,Y,V⟩:=P _ _ (Ye (r i j e d hi c));rw[z];have:=u i j e d _ hi c (Ye (r i j e d hi c)) V;cases this with
      |d _ _ s=>exact s)
    rw[J]at this;exact .d _ _ this
 |agg xs ys hl h u=>
  intro v hx;cases hx with
  |agg _ vs q o B=>
   refine .agg _ _ ae o (λi y v hy M=>?_);have b:i<xs.length:=by
    rw[hl];rcases YN i ys.length with h|h
    ·exact h
    ·rw[YX h]at hy;cases hy
   exact u i _ y (Ye b) hy (B i _ v (Ye b) M)
 |tup xs ys hl h u=>
  intro v hx;cases hx with
  |tup _ vs q B=>
   refine .tup _ _ ae (λi y v hy M=>?_);have b:i<xs.length:=by
    rw[hl];rcases YN i ys.length with h|h
    ·exact h
    ·rw[YX h]at hy;cases hy
   exact u i _ y (Ye b) hy (B i _ v (Ye b) M)
theorem ZlD{fn:Func}{KK:List AV->Prop}(j:Ok (l+1) H m S w)(k:Di (l+1) s H m S a w)(h:Fo P ⟨s,H⟩ fn.results.toList KK):
  ∃v xs,(results fn a.tmps).run P w=.ok v w/\RepA w S H m (l+1) (D5 xs) v/\KK xs:=by
 obtain⟨vs,xs,d,c,b,g⟩:=fW j k _ _ h;have o:∀f:ResultVar->Sem Value,(∀r,f r=P3 a.tmps r)->(fn.results.mapM f).run P w=.ok vs.toArray w:=by intro f n;have:f=P3 a.tmps:=funext n;subst this;rw[lJ];simp[d]
 refine⟨if h:vs.toArray.size=1 then vs.toArray[0]else .tuple vs.toArray,xs,?_,?_,g⟩
 ·unfold results;simp only[Sem.run_bind];rw[o _ (λr=>by cases r<;>rfl)];simp
 ·match xs,vs,c,b with
  |[x],[v],_,b=>exact b 0 x v rfl rfl
  |[],[],_,_=>exact .tup _ _ rfl (λi x v h=>by simp[D5]at h)
  |x::x'::xs,v::q::vs,c,b=>
   have e:¬((v::q::vs).toArray.size=1):=(by simp);rw[dif_neg e];exact .tup _ _ (by simpa using c) (λi x v hx p=>b i x v hx (by simpa using p))
theorem Zz0{P:Program}{f:FuncId}{fn:Func}{c:Code}{n l:Nat}{xs:List AV}{H:Hp}{s:AV->Hp->Prop}(hf:P.funcs[f]?=some fn)(hb:fn.body=some c)(G:(fn.name== "runtime.NumGoroutine")=false)
  (hn:fn.ntmps=n) (hx:xs.length<=n) (h:∀B:Base,BT P l n B c (uF P fn l H s) ⟨args xs,DO l H⟩):Zdm P f l xs H s:=by
 refine⟨⟨fn,c,hf,hb,G⟩,λm S w vs K j=>?_⟩;have a:∀k:Ad,k.1<=l->DO l H k=H k:=λk g=>by unfold DO;rw[Yi g]
 have hdead:∀k:Ad,¬k.1<=l->(DO l H k).live=false:=λk g=>by unfold DO;rw[Yh g]
 have u:∀k:Ad,(DO l H k).live=true->k.1<=l:=λk hl=>by grind
 have X:Ok (l+1) (DO l H) m S w:=by
  refine⟨K.sub,λq d hl o=>?_,λq d hl o=>?_,λq M d I hl t o J heq=>?_,λq d hl o=>?_,
   K.mp.stepL (λq _ hl _=>by have:=u q hl;rw[a q this]at hl⊢;exact⟨this,hl,rfl,rfl⟩) (λ_ h=>h) (λ_ h=>.inl h) (λ_ _=>rfl) (λ_ _ h _=>h)⟩
  ·have:=u q hl;rw[a q this]at hl⊢;exact K.empty q this hl o
  ·have:=u q hl;rw[a q this]at hl;exact K.fresh q this hl o
  ·have e:=u q hl;have e':=u M t;rw[a q e]at hl;rw[a M e']at t;exact K.inj q M e e' hl t o J heq
  ·have e:=u q hl;rw[a q e]at hl⊢;obtain⟨C,U,V,W,T⟩:=K.blk q e hl o;exact⟨C,U,V,W,λi x v hi O=>⟨(T i x v hi O).1,(T i x v hi O).2.agree (λk g=>a k ae) (λ_ _=>rfl)⟩⟩
 have hE:Ext l H m S w (DO l H) m S w:=⟨λ_ h=>h,λ_ _=>rfl,λk g=>by rw[a k g];exact Yf _,λk g _ hl=>by rw[a k g]at hl⊢;exact⟨hl,rfl,rfl⟩,rfl,rfl,rfl,Yf _⟩;have hR:R l n ⟨H,m,S,w⟩ ⟨args xs,DO l H⟩ {tmps:=vs++Array.replicate (fn.ntmps-vs.size) undef,defers:=[] } w:=by
  refine⟨m,S,X,by simp[hn];rw[<-j.1];omega,rfl,λi=>?_,hE⟩;simp only[args];cases hi:xs[i]? with
  |none=>exact .top _
  |some x=>
   have hlt:i<xs.length:=(by grind);have D:i<vs.size:=(by rw[<-j.1];exact hlt);rw[YD,ax D,Yy D];exact((j.2 i x _ hi (Yy D)).agree (λk g=>a k g) (λ_ _=>rfl)).lvl (Nat.le_succ l)
 refine calls_of_wp hf hb (wp_mono (h ⟨H,m,S,w⟩ _ w hR) λe a' w' ⟨σ',d,Y⟩=>?_);obtain⟨s',H'⟩:=σ';obtain⟨m',S',A,hn',hd',Z,N⟩:=Y.un;have done:Fo P ⟨s',H'⟩ fn.results.toList (λxs=>∃y,Fz H' l (D5 xs) y/\s y (JS l H' H))->a'.defers=[]/\∃v,(results fn a'.tmps).run P w'=.ok v w'/\
   (∃r Q p E z,Ending.returned v=.returned Q/\s r p/\Ok l p E z w'/\RepA w' z p E l r Q/\Ext l H m S w p E z w'):=by
  intro hr;obtain⟨v,xs,U,V,y,W,T⟩:=ZlD A Z hr;obtain⟨L,k2⟩:=A.fin;have b:∀k:Ad,k.1<=l->JS l H' H k=H' k:=λk g=>by unfold JS;rw[Yi g]
  refine⟨hd',v,U,y,v,JS l H' H,m',_,rfl,T,?_,(W.sound A V).agree b (λ_ _=>rfl),?_⟩
  ·refine⟨L.sub,λq d hl o=>?_,λq d hl o=>?_,λq M d I hl t o J heq=>?_,λq d hl o=>?_,
    L.mp.step (Yf _) (λq d hl _=>by rw[b q d]at hl⊢;exact⟨hl,rfl,rfl⟩) (λ_ h=>h) (λ_ h=>.inl h) (λ_ _=>rfl) (λ_ _ h _=>h)⟩
   ·rw[b q d]at hl⊢;exact L.empty q d hl o
   ·rw[b q d]at hl;exact L.fresh q d hl o
   ·rw[b q d]at hl;rw[b M I]at t;exact L.inj q M d I hl t o J heq
   ·rw[b q d]at hl⊢;obtain⟨C,g1,g2,g3,g4⟩:=L.blk q d hl o;exact⟨C,g1,g2,g3,λi x v hi O=>⟨(g4 i x v hi O).1,(g4 i x v hi O).2.agree (λk g=>b k ae) (λ_ _=>rfl)⟩⟩
  ·have F:=Ext.trans (show Ext l H m S w H' m' S' w' from N) k2;exact⟨F.s,F.blk,λk g=>by rw[b k g];exact F.g k g,λk g hg hl=>by rw[b k g]at hg hl⊢;exact F.live k g hg hl,F.os,F.tape,F.output,F.size⟩
 rcases d.1 with rfl|rfl
 ·exact done d.2
 ·exact done d.2
end
end Go.Eng
namespace Go.Eng
set_option linter.all false
open Go Go.RowKit
section
variable {P:Program} {l n:Nat} {ds:List (Option Nat)} {ops rest:List Oper} {K:St->Prop} {s:Nat->AV} {H:Hp} {d:Option Nat} {op:Op} {ty:TypeId} {ps:String} {af:Array Edge} {g:Option (Nat×Bool)}
variable {x y:Operand} {t:TypeId}
theorem iX{l:Nat}{H:Hp}{k:Ad}(h:k.1<=l):DO l H k=H k:=by unfold DO;rw[Yi h]
theorem ZEL{l:Nat}{H:Hp}{i:Nat}:DO l H (l+1,i)=⟨0,false,0,0,[]⟩:=by unfold DO;rw[Yh (by simp)]
end
def CD(o:Oper):Bool:=o.dst.isSome&&match o.op with
 |.call c=>match c.callee with
  |.value _=>true
  |.builtin .len|.builtin .min|.builtin .max=>true
  |_=>false
 |.binOp _ _ _ y _=>!K3 y
 |.alloc _|.box _ _|.store _ _ _|.buildSlice _ _ _|.makeSlice _ _ _|.makeMap _ _|.range _ _|.next _ _|.entry _=>false
 |_=>true
def cB(o:Oper):Bool:=match o.op with
 |.buildSlice _ (_+1) _=>true
 |_=>false
def Dq(o:Oper):Bool:=CD o||(o.dst.isSome&&cB o)
def tb(P:Program)(t:TypeId)(len:Nat)(ps:List (Nat×AV))(v:AV):Prop:=
 ∃e sz z es,elm P t=some (e,sz)/\sz≠0/\(len+1)*sz<=16777216/\zer P e=some z/\z.length=sz/\GP sz 0 ps=some es/\es.length=len+1/\v=.d (.list es)
def qV(P:Program)(l:Nat)(H:Hp)(o:Oper)(ρ:Operand->AV)(v:AV):Prop:=
 match o.op with
 |.buildSlice t (len+1) parts=>tb P t len (parts.toList.map λp=>(p.1,ρ p.2)) v
 |.call c=>match c.callee with
  |.value f=>match ρ f with
   |.fn (.func g) first a=>Zdm P g (l+1) (first++c.args.toList.map ρ++a) H (λy b=>y=v/\b=H)
   |_=>False
  |_=>A8 P H o.op ρ (λy=>y=v)
 |_=>A8 P H o.op ρ (λy=>y=v)
def GI(P:Program)(l n:Nat)(o:Oper)(K:St->Prop)(σ:St):Prop:=
 match o.op with
 |.buildSlice t (len+1) parts=>∃v,tb P t len (parts.toList.map λp=>(p.1,ev σ.s p.2)) v/\CY n o.dst K σ v
 |.call c=>match c.callee with
  |.value f=>match ev σ.s f with
   |.fn (.func g) first a=>∃r,Zdm P g (l+1) (first++c.args.toList.map (ev σ.s)++a) σ.H (λy b=>y=r/\b=σ.H)/\CY n o.dst K σ r
   |_=>False
  |_=>BI P l n o K σ
 |_=>BI P l n o K σ
def Ew(P:Program)(l n:Nat)(ds:List (Option Nat)):List Oper->(St->Prop)->St->Prop
 |[],K,σ=>K σ
 |o::a,K,σ=>match o.guard with
  |none=>GI P l n o (Ew P l n ds a K) σ
  |some (i,b)=>match JR σ.s ds i b with
   |some t=>(t=true->GI P l n o (Ew P l n ds a K) σ)/\(t=false->match o.dst with|some d=>d<n/\Ew P l n ds a K ⟨upd σ.s d (.tup []),σ.H⟩|none=>False)
   |none=>False
section
variable {P:Program} {l n:Nat} {B:Base} {H:Hp} {K K':AV->Prop} {t:TypeId} {x y:AV} {ρ ρ':Operand->AV}
theorem wC{op:BinOp}{k:IntKind}{a b:Int}(h:∀v,K v->K' v)(c:HC op k a b K):HC op k a b K':=by cases op<;>simp only[HC]at c⊢<;>first|exact h _ c|exact⟨c.1,h _ c.2⟩|exact c
theorem wM{op:BinOp}{a b:ByteArray}(h:∀v,K v->K' v)(c:Hy op a b K):Hy op a b K':=by cases op<;>simp only[Hy]at c⊢<;>first|exact h _ c|exact⟨c.1,h _ c.2⟩|exact c
theorem Zyi{op:BinOp}{k:IntKind}{a b:Int}(c:HC op k a b K):∃v,HC op k a b (λy=>y=v)/\K v:=by cases op<;>simp only[HC]at c⊢<;>first|exact⟨_,rfl,c⟩|exact⟨_,⟨c.1,rfl⟩,c.2⟩|exact c.elim
theorem Zzv{op:BinOp}{a b:ByteArray}(c:Hy op a b K):∃v,Hy op a b (λy=>y=v)/\K v:=by cases op<;>simp only[Hy]at c⊢<;>first|exact⟨_,rfl,c⟩|exact⟨_,⟨c.1,rfl⟩,c.2⟩|exact c.elim
theorem ZtL(h:Fl P H t x K):∃v,Fl P H t x (λy=>y=v)/\K v:=by
 unfold Fl at h⊢;split at h
 ·grind
 ·grind
 grind
theorem Zka{i:Nat}(h:FH P H t i x K):∃v,FH P H t i x (λy=>y=v)/\K v:=by unfold FH at h⊢;grind
theorem Zrf{i:Nat}(h:FR P t i x K):∃v,FR P t i x (λy=>y=v)/\K v:=by
 unfold FR at h⊢;split at h
 ·split at h
  ·grind
  grind
 grind
theorem Zkb(h:E2 P H t x y K):∃v,E2 P H t x y (λy=>y=v)/\K v:=by unfold E2 at h⊢;grind
theorem Zqr(h:Gv P t x y K):∃v,Gv P t x y (λy=>y=v)/\K v:=by unfold Gv at h⊢;grind
theorem Zz4{op:BinOp}{xs ys:List AV}(h:In P op t xs ys K):∃v,In P op t xs ys (λy=>y=v)/\K v:=by
 unfold In at h⊢;split at h
 ·grind
 grind
theorem ZwT{op:BinOp}(h:C8 P H op t false x y K):∃v,C8 P H op t false x y (λy=>y=v)/\K v:=by
 unfold C8 at h⊢;split at h
 ·obtain⟨v,a,b⟩:=Zyi h.2;exact⟨v,⟨h.1,a⟩,b⟩
 ·exact Zzv h
 ·grind
 ·exact Zz4 h
 ·cases h.1
 grind
theorem ZGH{op:UnOp}(h:Fw op x K):∃v,Fw op x (λy=>y=v)/\K v:=by unfold Fw at h⊢;grind
theorem Ztg{u:TypeId}(h:FV P t u x K):∃v,FV P t u x (λy=>y=v)/\K v:=by unfold FV at h⊢;grind
theorem Zq0{lo hi:Option AV}{a:Bool}(h:Ff P H t x lo hi a K):∃v,Ff P H t x lo hi a (λy=>y=v)/\K v:=by unfold Ff at h⊢;grind
theorem Zyt(h:Ez P H t x K):∃v,Ez P H t x (λy=>y=v)/\K v:=by unfold Ez at h⊢;grind
theorem Zri{ps:List (Nat×AV)}(h:Gu P t ps K):∃v,Gu P t ps (λy=>y=v)/\K v:=by unfold Gu at h⊢;grind
theorem ZFV{op:Op}(g:∀o t x y u,op=.binOp o t x y u->K3 y=false)(h:A8 P H op ρ K):∃v,A8 P H op ρ (λy=>y=v)/\K v:=by
 cases op<;>simp only[A8]at h⊢<;>try exact h.elim
 case move x=>exact⟨_,rfl,h⟩
 case assign x=>exact⟨_,rfl,h⟩
 case pick c a b=>
  split at h
  ·grind
  ·grind
 case load=>exact ZtL h
 case fieldAddr=>exact Zka h
 case field=>exact Zrf h
 case indexAddr=>exact Zkb h
 case index=>exact Zqr h
 case extract=>
  split at h
  ·grind
  ·grind
 case binOp o t x y u=>
  rw[g _ _ _ _ _ rfl]at h⊢;exact ZwT h
 case unOp=>exact ZGH h
 case convert=>exact Ztg h
 case nilCheck=>
  unfold Ku at h⊢;split at h
  ·grind
  ·grind
  ·grind
 case makeFunc=>exact⟨_,rfl,h⟩
 case makeInterface=>
  obtain⟨d,h⟩:=h
  repeat' split at h
  all_goals first|exact h.elim|exact⟨_,⟨d,rfl⟩,h⟩
 case typeAssert=>
  obtain⟨d,h⟩:=h
  repeat' split at h
  all_goals first|exact h.elim|exact⟨_,⟨d,h.1,rfl⟩,h.2⟩
 case slice=>exact Zq0 h
 case build=>exact Zri h
 case lookup=>exact Zvf h
 case call c=>
  split at h
  ·obtain⟨v,e,f⟩:=Zyt h.2;exact⟨v,⟨h.1,e⟩,f⟩
  ·split at h
   ·unfold EZ at h⊢;grind
   ·unfold Ie at h⊢;grind
   grind
  ·grind
theorem xI{op:Op}(e:∀o t x y u,op=.binOp o t x y u->K3 y=false){v:AV}(d:K v)(h:A8 P H op ρ (λy=>y=v)):A8 P H op ρ K:=by
 have:(λy=>y=v)=(λy=>y=v/\K v):=by funext y;simp[d]
 rw[this]at h;clear this d;cases op<;>simp only[A8]at h⊢<;>try exact h.elim
 case move x=>exact h.1▸h.2
 case assign x=>exact h.1▸h.2
 case pick c a b=>
  split at h
  ·grind
  ·grind
 case load t x=>
  unfold Fl at h⊢;split at h
  ·grind
  ·grind
  ·grind
 case fieldAddr=>
  unfold FH at h⊢;split at h
  ·grind
  ·grind
  ·grind
 case field=>
  unfold FR at h⊢;split at h
  ·split at h
   ·grind
   grind
  ·grind
 case indexAddr=>
  unfold E2 at h⊢;split at h
  ·grind
  ·grind
  ·grind
 case index=>
  unfold Gv at h⊢;split at h
  ·grind
  ·grind
 case makeInterface=>
  refine⟨h.1,?_⟩;replace h:=h.2
  repeat' split at h
  all_goals first|exact h.elim|exact h.1▸h.2
 case typeAssert=>
  refine⟨h.1,?_⟩;replace h:=h.2
  repeat' split at h
  all_goals first|exact h.elim|exact⟨h.1,h.2.1▸h.2.2⟩
 case extract=>
  split at h
  ·grind
  ·grind
 case binOp o t x y u=>
  rw[e _ _ _ _ _ rfl]at h⊢;unfold C8 at h⊢;split at h
  ·exact⟨h.1,wC (λy (hy:y=v/\K v)=>hy.1▸hy.2) h.2⟩
  ·exact wM (λy (hy:y=v/\K v)=>hy.1▸hy.2) h
  ·grind
  ·unfold In at h⊢;split at h
   ·split at h
    ·grind
    grind
   grind
  ·cases h.1
  ·grind
 case unOp=>
  unfold Fw at h⊢;split at h<;>grind
 case nilCheck=>
  unfold Ku at h⊢;split at h
  ·grind
  ·grind
  ·grind
 case convert=>
  unfold FV at h⊢;split at h
  ·grind
  ·grind
  ·grind
 case makeFunc=>exact h.1▸h.2
 case slice=>
  unfold Ff at h⊢;split at h
  ·grind
  ·grind
  ·grind
  ·grind
 case build=>
  unfold Gu at h⊢;split at h
  ·grind
  ·grind
 case lookup=>exact wQ (λy (hy:y=v/\K v)=>hy.1▸hy.2) h
 case call c=>
  split at h
  ·refine⟨h.1,?_⟩;replace h:=h.2;unfold Ez at h⊢;grind
  ·split at h
   ·unfold EZ at h⊢;grind
   ·unfold Ie at h⊢;grind
   grind
  ·grind
theorem gY{o:Oper}(h:Dq o=true)(a:∀t len ps,o.op=.buildSlice t (len+1) ps->False):CD o=true:=by
 unfold Dq at h;rw[YG]at h;rcases h with h|h
 ·exact h
 ·exfalso;unfold cB at h;split at h
  ·rename_i e;exact a _ _ _ e
  ·simp at h
theorem gN{o:Oper}(a:Dq o=true):∀b t x y u,o.op=.binOp b t x y u->K3 y=false:=by intro b t x y u h;simp only[Dq,cB,CD,h,Gf,Nd,Yc,YM]at a;exact a.2
theorem w3{o:Oper}{v:AV}(h:∀x∈o.op.operands,ρ x=ρ' x)(a:qV P l H o ρ v):qV P l H o ρ' v:=by
 obtain⟨k,op,type,pos,after,guard⟩:=o;have d:∀g:Array Operand,(∀x∈g,ρ x=ρ' x)->g.toList.map ρ=g.toList.map ρ':=λg j=>El λx hx=>j x (by simpa using hx);cases op<;>simp only[Op.operands]at h<;>simp only[qV,A8]at a⊢<;>try exact a
 case call c=>
  have j:c.args.toList.map ρ=c.args.toList.map ρ':=d _ λx hx=>h x (by simp[Call.operands,hx]);cases i:c.callee with
  |value f=>
   have y:ρ f=ρ' f:=h f (by simp[Call.operands,i]);grind
  |invoke r m=>simp only[i]at a
  |builtin b=>
   simp only[i]at a⊢;split at a
   ·rename_i x t w q u;rw[<-h x (by simp[Call.operands,i,ly q])];exact a
   ·grind
   grind
 case build t ps=>
  have:(ps.toList.map λp=>(p.1,ρ p.2))=ps.toList.map λp=>(p.1,ρ' p.2):=El λp s=>by grind
  rw[<-this];exact a
 case buildSlice t n ps=>
  cases n with
  |zero=>exact a
  |succ n=>
   have:(ps.toList.map λp=>(p.1,ρ p.2))=ps.toList.map λp=>(p.1,ρ' p.2):=El λp s=>by grind
   simp only at a⊢;rw[<-this];exact a
 case makeFunc fn first e=>
  rw[<-d first λx hx=>h x (by simp[hx]),<-d e λx hx=>h x (by simp[hx])];exact a
 case slice t x lo hi z=>
  rw[<-h x (by simp),show lo.map ρ'=lo.map ρ from by cases lo<;>simp_all,show hi.map ρ'=hi.map ρ from by cases hi<;>simp_all];exact a
 all_goals(first|(simp_all;done))
theorem xR{o:Oper}{s:Nat->AV}{K:St->Prop}(a:Dq o=true)(h:GI P l n o K ⟨s,H⟩):∃d v,o.dst=some d/\d<n/\qV P l H o (ev s) v/\K ⟨upd s d v,H⟩:=by
 have m:∃d,o.dst=some d:=by
  have:o.dst.isSome=true:=by
   unfold Dq CD at a;rw[YG,Yc,Yc]at a;rcases a with h|h
   ·exact h.1
   ·exact h.1
  exact E1.1 this
 obtain⟨d,m⟩:=m;have i:A8 P H o.op (ev s) (CY n o.dst K ⟨s,H⟩)->(∀v,A8 P H o.op (ev s) (λy=>y=v)->qV P l H o (ev s) v)->∃d v,o.dst=some d/\d<n/\qV P l H o (ev s) v/\K ⟨upd s d v,H⟩:=λh p=>by obtain⟨v,q,b⟩:=ZFV (gN a) h;rw[m]at b;exact⟨d,v,m,b.1,p v q,b.2⟩
 unfold GI at h;split at h
 ·rename_i z;obtain⟨v,q,b⟩:=h;rw[m]at b;refine⟨d,v,m,b.1,?_,b.2⟩;unfold qV;rw[z];exact q
 ·rename_i c j;replace a:CD o=true:=gY a λt n ps e=>by rw[j]at e;cases e
  split at h
  ·rename_i f w;simp only[]at h;split at h
   ·rename_i g first A B
    obtain⟨r,q,b⟩:=h;rw[m]at b;refine⟨d,r,m,b.1,?_,b.2⟩;simp only[qV,j,w,B];exact q
   ·exact h.elim
  ·rename_i w;refine i ?_ ?_
   ·unfold BI at h;simp only[j]at h;simp only[CD,j,Yc]at a;split at h
    ·rename_i f x;exact absurd x (w f)
    ·rename_i u;rw[u]at a;simp at a
    ·rw[j];exact h
   ·intro v p;unfold qV;rw[j]at p⊢;cases k:c.callee with
    |value f=>exact absurd k (w f)
    |_=>simpa[k]using p
 ·rename_i u j;replace a:CD o=true:=gY a λt n ps e=>u _ _ _ e;refine i ?_ ?_
  ·unfold BI at h;split at h
   ·rename_i he;simp[CD,he]at a
   ·rename_i he;simp[CD,he]at a
   ·rename_i he;simp[CD,he]at a
   ·rename_i he;simp[CD,he]at a
   ·rename_i he;simp[CD,he]at a
   ·rename_i c he;exact absurd he (j c)
   ·exact h
  ·intro v p;unfold qV;split
   ·rename_i he;exact absurd he (u _ _ _)
   ·rename_i c he;exact absurd he (j c)
   ·exact p
theorem ZMX{o:Oper}{s:Nat->AV}{v:AV}{d:Nat}(q:Dq o=true)(b:o.dst=some d)(a:d<n)(h:qV P l H o (ev s) v):CS P l n B o (λE=>E=⟨upd s d v,H⟩) ⟨s,H⟩:=by
 unfold qV at h;split at h
 ·rename_i t len parts k;obtain⟨e,sz,z,G,i,j,u,w,x,y,A,rfl⟩:=h;exact vK k b i j u w x y A a rfl
 ·rename_i c C;split at h
  ·rename_i f p;split at h
   ·rename_i g first m D
    refine xS C p D (h.mono λr F ⟨i,j⟩=>?_);subst i;subst j;rw[b];exact⟨a,rfl⟩
   grind
  ·rename_i p;exact WN (xI (gN q) (by rw[b];exact⟨a,rfl⟩) h)
 ·exact WN (xI (gN q) (by rw[b];exact⟨a,rfl⟩) h)
end
section
variable {P:Program} {l n:Nat} {B:Base} {H:Hp} {ops:Array Oper} {md:Region.Mode} {Q:(Nat->AV)->Prop}
def YA(P:Program)(l:Nat)(H:Hp)(ops:Array Oper)(o:Oper)(s:Nat->AV)(v:AV):Prop:=
 match o.guard with
 |none=>qV P l H o (ev s) v
 |some (i,b)=>match JR s (ops.toList.map (·.dst)) i b with
  |some t=>(t=true->qV P l H o (ev s) v)/\(t=false->v=.tup [])
  |none=>False
theorem lV{o:Oper}{s:Nat->AV}{v u:AV}{d:Nat}(k:d∉o.looksAt ops)(h:YA P l H ops o (upd s d u) v):YA P l H ops o s v:=by
 have f:∀x∈o.op.operands,ev (upd s d u) x=ev s x:=λx hx=>by
  cases x with
  |tmp t=>
   have c:t≠d:=λe=>k (by subst e;exact IE _ (List.mem_filterMap.2 ⟨.tmp t,by simpa using hx,rfl⟩));simp[ev,upd,c]
  |_=>rfl
 unfold YA at*;cases j:o.guard with
 |none=>simp only[j]at h⊢;exact w3 f h
 |some m=>
  obtain⟨i,b⟩:=m;simp only[j]at h⊢;have g:JR (upd s d u) (ops.toList.map (·.dst)) i b=JR s (ops.toList.map (·.dst)) i b:=by
   unfold JR;simp only[YR,YL];cases n:ops[i]? with
   |none=>rfl
   |some p=>
    cases a:p.dst with
    |none=>simp[a]
    |some t=>
     have c:t≠d:=λe=>k (by subst e;simp[Oper.looksAt,j,n,a]);simp[a,upd,c]
  rw[g]at h;split at h
  ·rename_i t q;exact⟨λe=>w3 f (h.1 e),h.2⟩
  ·exact h
theorem ZC4{o:Oper}{s:Nat->AV}{v u:AV}{d:Nat}(a:d∉o.looksAt ops)(h:YA P l H ops o s v):YA P l H ops o (upd s d u) v:=by
 refine lV (d:=d) (u:=s d) a ?_;have:upd (upd s d u) d (s d)=s:=by funext j;unfold upd;split<;>simp_all
 grind
theorem Zzb{s:Nat->AV}{d e:Nat}{u v:AV}(h:d≠e):upd (upd s d u) e v=upd (upd s e v) d u:=by funext j;unfold upd;grind
end
def NL(P:Program)(t:TypeId)(i:Nat):Option (Nat×Nat×Bool):=
 match P.underlying t with
 |some (.struct a)=>(a[i]?).bind λf=>(Eb P f.type).map λb=>(f.offset,P.cellsOf f.type,b)
 |_=>none
def Qj(o:Option (Nat×Nat×Bool))(x:AV)(K:AV->Prop):Prop:=
 match o,x with
 |some (o,n,true),.agg cs=>n≠0/\K (.agg ((cs.drop o).take n))
 |some (o,_,false),.agg cs=>(match cs[o]? with|some c=>K c|none=>False)
 |_,_=>False
theorem Zvj{P:Program}{t:TypeId}{i:Nat}{x:AV}{K:AV->Prop}:FR P t i x K=Qj (NL P t i) x K:=by
 unfold FR NL;cases x with
 |agg cs=>
  cases j:P.underlying t with
  |none=>rfl
  |some d=>
   cases d with
   |struct a=>
    simp only;cases g:a[i]? with
    |none=>rfl
    |some f=>
     simp only[Ya];cases c:Eb P f.type with
     |none=>rfl
     |some b=>cases b<;>rfl
   |_=>rfl
 |_=>
  have e:∀(o:Option (Nat×Nat×Bool)) (y:AV),(∀cs,y≠.agg cs)->Qj o y K=False:=λo y h=>by unfold Qj;grind
  grind
structure fins (P:Program) (l:Nat) (H:Hp) (rs:List ResultVar) (Post:AV->Hp->Prop) (e:Exit) (σ:St):Prop where
 he:e=.normal\/e=.ret
 hy:Fo P σ rs (λxs=>∃y,Fz σ.H l (D5 xs) y/\Post y (JS l σ.H H))
inductive Fit:D->Prop
 |int (k:IntKind) (n:Int):Fit (.int k n)
 |bool (b:Bool):Fit (.bool b)
 |str (s:ByteArray) (h:s.size<2147483648):Fit (.str s)
 |list (es:List (List D)) (hl:es.length<2147483648) (h:∀e∈es,∀x∈e,Fit x):Fit (.list es)
def LS(l:List D):Prop:=∀d∈l,Fit d
theorem Fit.len{α:Type}{e:α->List D}{xs:List α}(h:Fit (.list (xs.map e))):xs.length<2147483648:=by cases h with|list _ hl h=>simpa using hl
theorem Fit.mem{α:Type}{e:α->List D}{xs:List α}(h:Fit (.list (xs.map e))){x:α}(hx:x∈xs):LS (e x):=by cases h with|list _ hl h=>exact h _ (aw hx)
theorem Fit.el{α:Type}{e:α->List D}{xs:List α}(h:Fit (.list (xs.map e))){i:Nat}{x:α}(hx:xs[i]?=some x):LS (e x):=h.mem (Yg hx)
theorem LS.at{l:List D}(h:LS l)(i:Nat){d:D}(hi:l[i]?=some d):Fit d:=h d (Yg hi)
theorem LS.sub{l:List D}(h:LS l)(i n:Nat){m:List D}(hi:(l.drop i).take n=m):LS m:=by subst hi;exact λd a=>h d (aB (TX a))
def nrm:AV->AV
 |.e0=>.d (.list [])
 |.agg xs=>.agg (xs.map λx=>match x with|.e0=>.d (.list [])|x=>x)
 |x=>x
section
variable {P:Program} {l n:Nat} {B:Base} {H H':Hp} {K:St->Prop} {σ σ':St} {Q:Exit->St->Prop} {s:Nat->AV} {ds:List (Option Nat)} {d:Option Nat} {op:Op} {ty:TypeId} {ps:String} {af:Array Edge} {rest:List Oper}
 {g:Option (Nat×Bool)} {x y:Operand} {t:TypeId}
theorem gR{a b:Code}(h:BT P l n B a (rN (BT P l n B b Q) Q) σ):BT P l n B (.seq a b) Q σ:=ZEB λ_ c=>IN h λe σ' h=>by cases e<;>first|exact c σ' h|exact h
theorem Oi{a:Int}{i:Nat}(h:a=(i:Int))(hi:i<9223372036854775808):IntKind.wrap .i64 a=(i:Int):=by subst h;exact IntWalk.i64_in _ ⟨ae,ae⟩
theorem ZAo{f:FuncId}{fn:Func}(g:List ResultVar){c:Code}{xs:List AV}{a:AV->Hp->Prop}(j:P.funcs[f]?=some fn)(i:fn.body=some c)(b:(fn.name== "runtime.NumGoroutine")=false)
  (k:fn.ntmps=n) (m:fn.results.toList=g) (hx:xs.length<=n) (h:∀B:Base,BT P l n B c (fins P l H g a) ⟨args xs,DO l H⟩):Zdm P f l xs H a:=by
 refine Zz0 j i b k hx λB=>IN (h B) λe σ d=>?_;unfold uF;rw[m];exact⟨d.he,d.hy⟩
theorem Fz.data{xs:List D}:Fz H' l (.agg (xs.map .d)) (.agg (xs.map .d)):=
 .agg _ _ rfl λi x y hx hy=>by
  rw[hx]at hy;cases hy;rw[YR]at hx;cases hi:xs[i]? with
  |none=>rw[hi]at hx;cases hx
  |some d=>rw[hi]at hx;cases hx;exact .keep _ rfl
theorem Fz.pure{xs:List AV}{ds:List D}(h:D3 xs=some ds):Fz H' l (.agg xs) (.agg (ds.map .d)):=
 .agg _ _ (by rw[YF];exact gE h) λi x y hx hy=>by
  rw[YR]at hy;cases hi:ds[i]? with
  |none=>rw[hi]at hy;cases hy
  |some d=>
   rw[hi]at hy;cases hy;have:=wY h hx hi;cases x<;>simp only[Hr]at this<;>cases this
   ·exact .keep _ rfl
   ·exact .e0
theorem Fz.d'{x:AV}{y:D}(h:x=.d y):Fz H' l x (.d y):=by subst h;exact .keep _ rfl
theorem Fz.two{x y x' e:AV}(hx:Fz H' l x x')(hy:Fz H' l y e):Fz H' l (D5 [x,y]) (.tup [x',e]):=
 .tup _ _ rfl λi a b c d=>by
  match i with
  |0=>cases c;cases d;exact hx
  |1=>cases c;cases d;exact hy
  |i+2=>simp at c
theorem Fz.one{x x':AV}(hx:Fz H' l x x'):Fz H' l (D5 [x]) x':=hx
theorem RepA.nrm{S:Nat->Prop}{m:Mu}{w:World}{x:AV}{v:Value}(h:RepA w S H m l x v):RepA w S H m l (nrm x) v:=by
 cases x with
 |e0=>exact h.e0_d
 |agg xs=>
  cases h with
  |agg _ vs hx a h=>
   refine .agg _ _ (by simpa using hx) a (λi y v hy b=>?_);rw[YR]at hy;cases hi:xs[i]? with
   |none=>rw[hi]at hy;cases hy
   |some x=>
    rw[hi]at hy;simp only[Y0,Yo]at hy;subst hy;have:=h i x v hi b;split
    ·exact this.e0_d
    grind
 |_=>exact h
theorem Zdm.nrm{f:FuncId}{xs:List AV}{a:AV->Hp->Prop}(h:Zdm P f l (xs.map nrm) H a):Zdm P f l xs H a:=
 ⟨h.1,λm S w vs c b=>h.2 m S w vs c ⟨by simpa using b.1,λi x v hx d=>by
  rw[YR]at hx;cases hi:xs[i]? with
  |none=>rw[hi]at hx;cases hx
  |some y=>
   rw[hi]at hx;simp only[Y0,Yo]at hx;subst hx;exact(b.2 i y v hi d).nrm⟩⟩
end
def RM:List Operand->List Nat
 |[]=>[]
 |.tmp t::r=>t::RM r
 |_::r=>RM r
def NA:List (Option Nat)->Nat->Option Nat
 |[],_=>none
 |x::_,0=>x
 |_::r,i+1=>NA r i
def Gz(ds:List (Option Nat))(o:Oper):List Nat:=
 RM o.op.operands.toList++match o.guard with
  |some (g,_)=>(match NA ds g with|some d=>[d]|none=>[])
  |none=>[]
def Gy:List (Nat×Nat)->Nat->Option Nat
 |[],_=>none
 |(d,k)::r,t=>match Nat.beq d t with|true=>some k|false=>Gy r t
def Cq(o:Oper)(i:Nat):Bool:=o.after.toList.any λe=>Region.binds .any e&&Nat.beq e.on i
def clear(o:Oper)(d:Nat):List (Nat×Nat)->Bool
 |[]=>true
 |(t,i)::r=>(match Nat.beq t d with|true=>Cq o i|false=>true)&&clear o d r
theorem xp{o:Oper}{d i:Nat}:∀{l:List (Nat×Nat)},clear o d l=true->(d,i)∈l->Cq o i=true
 |[],_,h=>by cases h
 |(t,j)::r,a,h=>by
  simp only[clear,Yc]at a;rcases Yx.1 h with h|h
  ·cases h;have:=a.1;rw[T3]at this;exact this
  ·exact xp a.2 h
def OS(ds:List (Option Nat)):Nat->List (Nat×Nat)->List (Nat×Nat)->List Oper->Bool
 |_,_,_,[]=>true
 |k,seen,a,o::r=>
  (o.after.toList.all λe=>!Region.binds .any e||Nat.ble (e.on+1) k)&&
  ((Gz ds o).all λt=>match Gy seen t with|some i=>Cq o i|none=>true)&&
  match o.dst with
  |some d=>(Gy seen d).isNone&&clear o d a&&OS ds (k+1) ((d,k)::seen) ((Gz ds o).map (·,k)++a) r
  |none=>OS ds (k+1) seen ((Gz ds o).map (·,k)++a) r
def Za:List Oper->Bool
 |[]=>true
 |o::r=>(match o.op with|.select _ _=>false|_=>true)&&Za r
def Zy(ops:List Oper):Bool:=Za ops&&OS (ops.map (·.dst)) 0 [] [] ops
theorem Zt1(xs:List Operand):RM xs=xs.filterMap λ|.tmp t=>some t|_=>none:=by
 induction xs with
 |nil=>rfl
 |cons x xs a=>cases x<;>simp[RM,a]
theorem ya:∀(ds:List (Option Nat)) (i:Nat),NA ds i=(ds[i]?).join
 |[],i=>by simp[NA]
 |x::r,0=>by simp[NA]
 |x::r,i+1=>by simp[NA,ya r i]
theorem w7(ops:List Oper)(o:Oper):Gz (ops.map (·.dst)) o=o.looksAt ops.toArray:=by
 unfold Gz Oper.looksAt;rw[Zt1];congr 1;cases d:o.guard with
 |none=>rfl
 |some a=>
  obtain⟨g,b⟩:=a;simp only;rw[ya,YR];simp only[lz];cases ops[g]? with
  |none=>rfl
  |some c=>simp only[Y0,Option.join_some,Ya];cases c.dst<;>rfl
structure FInv (ds:List (Option Nat)) (pre:List Oper) (seen:List (Nat×Nat)) (looked:List (Nat×Nat)):Prop where
 s1:∀d i,Gy seen d=some i->∃o,pre[i]?=some o/\o.dst=some d
 s2:∀(i:Nat) (o:Oper) (d:Nat),pre[i]?=some o->o.dst=some d->Gy seen d=some i
 lo:∀(i:Nat) (o:Oper),pre[i]?=some o->∀t∈Gz ds o,(t,i)∈looked
def Xj(ds:List (Option Nat))(x y:Oper):Prop:=(∀d,x.dst=some d->d∉Gz ds y/\y.dst≠some d)/\(∀d,y.dst=some d->d∉Gz ds x)
theorem vY(ds:List (Option Nat)):∀(s pre:List Oper) (seen c:List (Nat×Nat)),FInv ds pre seen c->OS ds pre.length seen c s=true->
  ∀(j:Nat) (p:Oper),s[j]?=some p->(∀e∈p.after,Region.binds .any e=true->e.on<pre.length+j)/\
   ∀(i:Nat) (n:Oper),i<pre.length+j->(pre++s)[i]?=some n->Cq p i=true\/Xj ds n p
 |[],pre,seen,c,v,h,j,p,B=>by simp at B
 |o::r,pre,seen,c,v,h,j,p,B=>by
  simp only[OS,Yc]at h;obtain⟨⟨H,I⟩,u⟩:=h;cases j with
  |zero=>
   simp only[G7,Yo]at B;subst B;refine⟨λe he E=>?_,λi n hi g=>?_⟩
   ·have:=Yv.1 H e (by simpa using he);simp only[E,YQ,G4]at this;have:=Ym this;omega
   ·rw[Ys ae]at g;by_cases A:Cq o i=true
    ·exact .inl A
    ·right;refine⟨λd w=>⟨λhm=>?_,λk=>?_⟩,λd w hm=>?_⟩
     ·have:=Yv.1 I d hm;rw[v.s2 i n d g w]at this;exact A this
     ·rw[k]at u;simp only[Yc]at u;have:=u.1.1;rw[v.s2 i n d g w]at this;cases this
     ·rw[w]at u;simp only[Yc]at u;exact A (xp u.1.2 (v.lo i n g d hm))
  |succ j=>
   simp only[M9]at B;have q:∀(f:List (Nat×Nat)),(∀d i,Gy f d=some i->∃m,(pre++[o])[i]?=some m/\m.dst=some d)->(∀(i:Nat) (m:Oper) (d:Nat),(pre++[o])[i]?=some m->m.dst=some d->Gy f d=some i)->
     FInv ds (pre++[o]) f ((Gz ds o).map (·,pre.length)++c):=λf a b=>⟨a,b,λi m g t G=>by
    rcases PX i pre.length with l|heq|C
    ·rw[Ys l]at g;exact lB _ (v.lo i m g t G)
    ·subst heq;simp at g;subst g;exact IE _ (YV.2 ⟨t,G,rfl⟩)
    ·rw[YX (by simp;omega)]at g;cases g⟩
   have fin:∀f,FInv ds (pre++[o]) f ((Gz ds o).map (·,pre.length)++c)->OS ds (pre.length+1) f ((Gz ds o).map (·,pre.length)++c) r=true->_:=λf D K=>
    vY ds r (pre++[o]) f ((Gz ds o).map (·,pre.length)++c) D (by simpa using K) j p B
   have conv:(∀e∈p.after,Region.binds .any e=true->e.on<(pre++[o]).length+j)/\(∀(i:Nat) (n:Oper),i<(pre++[o]).length+j->(pre++[o]++r)[i]?=some n->Cq p i=true\/Xj ds n p)->
     (∀e∈p.after,Region.binds .any e=true->e.on<pre.length+(j+1))/\(∀(i:Nat) (n:Oper),i<pre.length+(j+1)->(pre++o::r)[i]?=some n->Cq p i=true\/Xj ds n p):=by
    rintro⟨a,b⟩;simp only[Yt,Em,HP,DB,HO,Ge]at a b;exact⟨λe he E=>by have:=a e he E;omega,λi n hi g=>b i n ae g⟩
   split at u
   ·rename_i d w;simp only[Yc]at u;obtain⟨⟨F,L⟩,J⟩:=u;have z:Gy seen d=none:=(by cases x:Gy seen d with|none=>rfl|some i=>rw[x]at F;cases F);refine conv (fin _ (q ((d,pre.length)::seen) (λd' i x=>?_) (λi m d' g k=>?_)) J)
    ·simp only[Gy]at x;split at x
     ·rename_i he;cases x;rw[<-Yd he];exact⟨o,by simp,w⟩
     ·obtain⟨m,a,b⟩:=v.s1 d' i x;refine⟨m,?_,b⟩;rw[Ys];exact a;rcases YN i pre.length with l|y
      ·exact l
      ·rw[YX y]at a;cases a
    ·simp only[Gy];rcases PX i pre.length with l|heq|C
     ·rw[Ys l]at g;have:=v.s2 i m d' g k;split
      ·rename_i he;rw[<-Yd he,z]at this;cases this
      ·exact this
     ·subst heq;simp at g;subst g;rw[w]at k;cases k;simp
     ·rw[YX (by simp;omega)]at g;cases g
   ·rename_i w;refine conv (fin _ (q seen (λd' i x=>?_) (λi m d' g k=>?_)) u)
    ·obtain⟨m,a,b⟩:=v.s1 d' i x;refine⟨m,?_,b⟩;rw[Ys];exact a;rcases YN i pre.length with l|y
     ·exact l
     ·rw[YX y]at a;cases a
    ·rcases PX i pre.length with l|heq|C
     ·rw[Ys l]at g;exact v.s2 i m d' g k
     ·subst heq;simp at g;subst g;rw[w]at k;cases k
     ·rw[YX (by simp;omega)]at g;cases g
theorem ZmF{ops:List Oper}{x y:Oper}(h:Xj (ops.map (·.dst)) x y):x.apart ops.toArray y=true:=by
 obtain⟨a,c⟩:=h;rw[w7]at c;have b:∀d,x.dst=some d->d∉y.looksAt ops.toArray/\y.dst≠some d:=λd e=>by have:=a d e;rw[w7]at this;exact this
 unfold Oper.apart;grind
theorem wq{ops:Array Oper}(m:∀(j:Nat) (c:Oper),ops[j]?=some c->∀e∈c.after,Region.binds .any e=true->e.on<j)
  (n:∀(i j:Nat) (o c:Oper),i<j->ops[i]?=some o->ops[j]?=some c->Cq c i=true\/o.apart ops c=true):
  ∀(fuel k:Nat) (a:Array Bool),fuel+k=ops.size->a.size=ops.size->(∀j,j<ops.size->a[j]?=some (decide (j<k)))->Region.lexFrom .any ops fuel k a=true
 |0,k,a,q,hs,hl=>by simp only[Region.lexFrom];rw[List.isEmpty_iff,Region.ready,TW];intro i hi;have hi:=T1.1 hi;have:=hl i hi;simp[YD,this];omega
 |fuel+1,k,a,q,hs,hl=>by
  have g:k<ops.size:=ae
  have b:ops[k]?=some ops[k]:=Yy g;simp only[Region.lexFrom,Yc];refine⟨⟨?_,?_⟩,wq m n fuel (k+1) _ ae (by simp[hs]) (λj d=>?_)⟩
  ·rw[List.contains_iff_mem];unfold Region.ready;refine Y2.2 ⟨T1.2 g,?_⟩;rw[Yc];refine⟨by simp[YD,hl k g],?_⟩;rw[b];simp only[Y0,YK];rw[Array.all_eq_true_iff_forall_mem];intro e he;by_cases p:Region.binds .any e=true
   ·have:=m k _ b e he p;simp[YD,hl e.on ae,this]
   grind
  ·unfold Region.free;rw[b];simp only[Yv,T1];intro j d;rw[YG,YG];rcases PX j k with l|heq|f
   ·left;right;simp[YD,hl j d,l]
   ·grind
   ·right;rw[Yy d];simp only;rw[YG];rcases n k j _ _ f b (Yy d)with h|h
    ·left;unfold Cq at h;obtain⟨e,he,h⟩:=YP.1 h;rw[<-Array.any_toList];exact YP.2 ⟨e,he,by simpa using h⟩
    grind
  grind
theorem we{ops:List Oper}(h:Zy ops=true):Region.lexB .any ops.toArray=true:=by
 unfold Zy at h;rw[Yc]at h;have g:∀(l:List Oper),Za l=true->l.all (λo=>match o.op with|.select ..=>false|_=>true)=true:=λl=>by
  induction l with
  |nil=>intro _;rfl
  |cons o l p=>
   intro m;simp only[Za,Yc]at m;grind
 have key:=vY (ops.map (·.dst)) ops [] [] [] ⟨λd i k=>by simp[Gy]at k,λi o d e=>by simp at e,λi o e=>by simp at e⟩ h.2;simp only[HP,YU,Ge]at key;unfold Region.lexB;rw[Yc];refine⟨?_,wq (λj f b=>(key j f (by simpa using b)).1) (λi j n f c hi b=>?_) _ 0 _ rfl (by simp) (λj b=>by simp at b⊢;simp[b])⟩
 ·unfold Region.noSelect;grind
 ·rcases(key j f (by simpa using b)).2 i n c (by simpa using hi)with a|a
  ·grind
  ·exact .inr (ZmF a)
structure TI where
 agg:Bool:=false
 kin:Nat:=0
 siz:Nat:=1
 elm:Option (Nat×Nat):=none
 fld:List (Nat×Nat×Bool):=[]
 zer:Option (List AV):=none
 eqt:Option (List Nat):=none
 str:Bool:=false
 ik:Option IntKind:=none
 byt:Option Nat:=none
 mp:Option (Bool×List D):=none
def AV.flat:AV->Bool
 |.d _|.e0|.p _|.iptr _ _=>true
 |_=>false
structure TIok (P:Program) (t:TypeId) (i:TI):Prop where
 agg:Eb P t=some i.agg
 kin:kin P t=i.kin
 siz:P.cellsOf t=i.siz
 elm:∀e,i.elm=some e->Go.Eng.elm P t=some e
 fld:∀(j:Nat) (x:Nat×Nat×Bool),i.fld[j]?=some x->Go.Eng.fld P t j=some (x.1,x.2.1)/\NL P t j=some x
 zer:∀z,i.zer=some z->Go.Eng.zer P t=some z
 eqt:∀z,i.eqt=some z->Pf P t=some z
 str:i.str=true->Np P t=true
 ik:∀z,i.ik=some z->P.underlying t=some (.int z)
 byt:∀z,i.byt=some z->P.bytesOf t<=z/\P.bytesOf t≠0
 flt:∀z,i.zer=some z->z.all AV.flat=true
 mp:∀z,i.mp=some z->Nn P t=some z
def Bi(P:Program)(T:Nat->Option TI):Prop:=∀t i,T t=some i->TIok P t i
inductive AT where
 |nil
 |go (r:AT)
 |av (x:AV) (r:AT)
 |cs (c:List AV) (r:AT)
 |ds (e:List D) (r:AT)
 |num (n:Int) (r:AT)
 |nat (n:Nat) (r:AT)
 |call (x:AV) (ks:List Ad) (r:AT)
 |callH (x:AV) (ks:List Ad) (hb:List (Ad×List AV)) (r:AT)
 |br (a b:AT)
 |frz (d:Nat) (js:List (Nat×List (List D))) (cs:List (Ad×Nat×List (List D))) (r:AT)
 |adc (k:Ad) (i d:Nat) (e:TypeId) (sz:Nat) (r:AT)
 |mv (d j:Nat) (r:AT)
 |ads (j d:Nat) (e:TypeId) (sz:Nat) (r:AT)
 |trim (k:Ad) (c:List AV) (r:AT)
 |reb (j d m:Nat) (c:List AV) (r:AT)
 |sep (r:AT)
 |hard (x:AV) (ks:List Ad) (hb:List (Ad×Blk)) (fr:List Ad) (r:AT)
 |ents (es:List (List D)) (r:AT)
 |all (a:AT) (f:Nat->AT)
 |fzm (d:Nat) (js:List Nat) (r:AT)
 |fzb (d:Nat) (js:List Nat) (r:AT)
 |rnm (d d' e i:Nat) (r:AT)
 |mvc (d q e i:Nat) (r:AT)
 |one (v:Bool) (r:AT)
structure Ren where
 κ:Ad->Ad
 γ:Ad->Nat
 θ:Nat->AV
 H0:Hp
 no:Ad->Prop
mutual
def ren(r:Ren):AV->AV
 |.ref k g off n=>.ref (r.κ k) (r.γ k+g) off n
 |.ptr k g off=>.ptr (r.κ k) (r.γ k+g) off
 |.mp k g=>.mp (r.κ k) (r.γ k+g)
 |.fn f xs ys=>match f with
  |.yield i=>r.θ i
  |f=>.fn f (Aq r xs) (Aq r ys)
 |.agg xs=>.agg (Aq r xs)
 |.tup xs=>.tup (Aq r xs)
 |.top=>.top
 |.d x=>.d x
 |.e0=>.e0
 |.p x=>.p x
 |.iptr cs off=>.iptr cs off
 |.ifc t ds a=>.ifc t ds a
def Aq(r:Ren):List AV->List AV
 |[]=>[]
 |x::xs=>ren r x::Aq r xs
end
def AP(r:Ren)(k:Ad)(b:Blk):Blk:=⟨r.γ k+b.g,true,b.e,b.sz,Aq r b.cells⟩
theorem Gt{r:Ren}(xs:List AV):Aq r xs=xs.map (ren r):=by
 induction xs with
 |nil=>simp[Aq]
 |cons x xs a=>simp[Aq,a]
theorem C5{r:Ren}(xs:List AV):(Aq r xs).length=xs.length:=by rw[Gt,YF]
theorem HX{r:Ren}(xs ys:List AV):Aq r (xs++ys)=Aq r xs++Aq r ys:=by simp[Gt]
theorem FJ{r:Ren}(xs:List AV)(n:Nat):(Aq r xs).drop n=Aq r (xs.drop n):=by simp[Gt]
theorem Gq{r:Ren}(xs:List AV)(n:Nat):(Aq r xs).take n=Aq r (xs.take n):=by simp[Gt]
theorem IT{r:Ren}(xs:List AV)(n:Nat):(Aq r xs)[n]?=(xs[n]?).map (ren r):=by simp[Gt]
theorem IX{r:Ren}(xs:List D):Aq r (xs.map .d)=xs.map .d:=by
 induction xs with
 |nil=>simp[Aq]
 |cons x xs a=>simp only[YY,Aq,ren,a]
theorem ZyC{r:Ren}{xs:List AV}(h:xs≠[]):Aq r xs≠[]:=by cases xs<;>simp_all[Aq]
def Eg(r:Ren)(H a:Hp):Prop:=∀k,(H k).live=true->a (r.κ k)=AP r k (H k)
def Bp{α:Type}:List α->Nat->Option α
 |[],_=>none
 |x::_,0=>some x
 |_::xs,i+1=>Bp xs i
theorem CC{α:Type}:∀(xs:List α) (i:Nat),Bp xs i=xs[i]?
 |[],i=>by simp[Bp]
 |x::xs,0=>by simp[Bp]
 |x::xs,i+1=>by simp[Bp,CC xs i]
def K6{α:Type}:Nat->List α->Option (List α)
 |0,_=>some []
 |n+1,x::xs=>match K6 n xs with|some r=>some (x::r)|none=>none
 |_+1,[]=>none
theorem g8{α:Type}:∀(n:Nat) (xs r:List α),K6 n xs=some r->xs.take n=r/\n<=xs.length
 |0,xs,r,h=>by simp only[K6,Yo]at h;subst h;simp
 |n+1,[],r,h=>by simp[K6]at h
 |n+1,x::xs,r,h=>by
  simp only[K6]at h;split at h
  ·rename_i q a;cases h;obtain⟨b,c⟩:=g8 n xs q a;grind
  ·cases h
def B5(H:Hp)(k:Ad)(g:Nat):Bool:=Nat.beq g (H k).g&&(H k).live
theorem Fa{H:Hp}{k:Ad}{g:Nat}(h:B5 H k g=true):g=(H k).g/\(H k).live=true:=by simp only[B5,Yc]at h;exact⟨Yd h.1,h.2⟩
theorem Eg.at{r:Ren}{H a:Hp}(h:Eg r H a){k:Ad}{g:Nat}(hl:B5 H k g=true):r.γ k+g=(a (r.κ k)).g/\(a (r.κ k)).live=true/\(a (r.κ k)).e=(H k).e/\(a (r.κ k)).sz=(H k).sz/\(a (r.κ k)).cells=Aq r (H k).cells:=by obtain⟨b,c⟩:=Fa hl;rw[h k c];subst b;exact⟨rfl,rfl,rfl,rfl,rfl⟩
def Bq(g:Option Bool)(S:Prop):Prop:=
 match g with
 |none=>S
 |some b=>b=true->S
theorem BG{g:Option Bool}{S:Prop}(a:∀b,g=some b->b=true)(h:Bq g S):S:=by unfold Bq at h;grind
def Er(cs:List AV)(off:Nat)(c:List AV):Prop:=(cs.drop off).take c.length=c
def Kq(a:List (List D))(n:Int)(e:List D):Prop:=0<=n/\a[n.toNat]?=some e
def ND(n:Int)(len off sz o:Nat):Prop:=0<=n/\n<len/\(off+n.toNat)*sz=o
def Kg(s:ByteArray)(n b:Int):Prop:=0<=n/\∃x:UInt8,s.data.toList[n.toNat]?=some x/\b=x.toNat
def CQ(k:IntKind)(a r:Int):Prop:=k.wrap a=r
def BQ(a b:Int):Prop:=a=b
def TC(a b:Int):Prop:=a≠b
def Tz(a b:Int):Prop:=a<=b
def s4(a b:ByteArray):Prop:=a.size+b.size<=9223372036854775807
def Dy(dflt:Nat)(o:Option AV)(l:Nat):Prop:=
 match o with
 |none=>l=dflt
 |some (.d (.int _ n))=>n=l
 |_=>False
def FD(l h n:Nat):Prop:=l<=h/\h<=n
def PG(es:List (List D))(sz l h:Nat)(a:List (List D)):Prop:=(∀e,e∈es->e.length=sz)/\(es.drop l).take (h-l)=a
def ai(off l h o n:Nat):Prop:=off+l=o/\h-l=n
def cq(t:Bool)(a b:AV):AV:=
 match a,b with
 |.d (.bool x),.d (.bool y)=>.d (.bool (cond t x y))
 |a,b=>cond t a b
theorem ZAn(t:Bool)(a b:AV):cq t a b=if t then a else b:=by unfold cq;grind
def O7(i:TI)(H:Hp)(x:AV)(g:Option Bool)(a:AT)(K:AV->AT->Prop):Prop:=
 match x with
 |.iptr cs off=>match i.agg with
  |true=>match Nat.ble 1 i.siz,K6 i.siz (cs.drop off)with|true,some c=>K (.agg (c.map .d)) a|_,_=>False
  |false=>match Bp cs off with|some c=>K (.d c) a|none=>False
 |.ptr k q off=>match B5 H k q with
  |true=>match a with
   |.go r=>(match i.agg with
    |true=>match Nat.ble 1 i.siz,K6 i.siz ((H k).cells.drop off)with|true,some c=>K (.agg c) r|_,_=>False
    |false=>match Bp (H k).cells off with|some c=>K c r|none=>False)
   |.cs c r=>(match i.agg with
    |true=>match Nat.ble 1 i.siz,Nat.beq c.length i.siz with|true,true=>Bq g (Er (H k).cells off c)/\K (.agg c) r|_,_=>False
    |false=>match c with|[x]=>Bq g (Er (H k).cells off [x])/\K x r|_=>False)
   |_=>False
  |false=>False
 |_=>False
def V8(i:TI)(H:Hp)(f:Nat)(x:AV)(a:AT)(K:AV->AT->Prop):Prop:=
 match Bp i.fld f with
 |some (o,n,_)=>match Nat.ble 1 n with
  |true=>(match x with
   |.iptr cs off=>K (.iptr cs (off+o)) a
   |.ptr k q off=>match B5 H k q with|true=>K (.ptr k q (off+o)) a|false=>False
   |_=>False)
  |false=>False
 |none=>False
def Xg(i:TI)(f:Nat)(x:AV)(a:AT)(K:AV->AT->Prop):Prop:=
 match Bp i.fld f,x with
 |some (o,n,true),.agg cs=>(match Nat.ble 1 n with|true=>K (.agg ((cs.drop o).take n)) a|false=>False)
 |some (o,_,false),.agg cs=>(match Bp cs o with|some c=>K c a|none=>False)
 |_,_=>False
def Wa(i:TI)(H:Hp)(x j:AV)(g:Option Bool)(a:AT)(K:AV->AT->Prop):Prop:=
 match i.elm,j with
 |some (_,sz),.d (.int _ n)=>(match x,a with
  |.d (.list b),.ds e r=>(match Nat.beq e.length sz,Nat.ble 1 sz with|true,true=>Bq g (Kq b n e)/\K (.iptr e 0) r|_,_=>False)
  |.ref k q off len,.nat o r=>(match B5 H k q,Nat.beq (H k).sz sz,Nat.ble 1 sz with|true,true,true=>Bq g (ND n len off sz o)/\K (.ptr k q o) r|_,_,_=>False)
  |_,_=>False)
 |_,_=>False
def WT(i:TI)(x j:AV)(g:Option Bool)(a:AT)(K:AV->AT->Prop):Prop:=
 match x,j,a with
 |.d (.str s),.d (.int _ n),.num b r=>(match Nat.beq i.kin 2 with|true=>Bq g (Kg s n b)/\K (.d (.int .u8 b)) r|false=>False)
 |_,_,_=>False
def UQ(op:BinOp)(k:IntKind)(x y:Int)(g:Option Bool)(a:AT)(K:AV->AT->Prop):Prop:=
 match op with
 |.eql=>K (.d (.bool (decide (x=y)))) a
 |.neq=>K (.d (.bool (!decide (x=y)))) a
 |.lss=>K (.d (.bool (decide (x<y)))) a
 |.leq=>K (.d (.bool (decide (x<=y)))) a
 |.gtr=>K (.d (.bool (decide (y<x)))) a
 |.geq=>K (.d (.bool (decide (y<=x)))) a
 |.add=>match a with|.num n r=>Bq g (CQ k (x+y) n)/\K (.d (.int k n)) r|_=>False
 |.sub=>match a with|.num n r=>Bq g (CQ k (x-y) n)/\K (.d (.int k n)) r|_=>False
 |.mul=>match a with|.num n r=>Bq g (CQ k (x*y) n)/\K (.d (.int k n)) r|_=>False
 |.quo=>match a with|.num n r=>Bq g (TC y 0)/\Bq g (CQ k (x.tdiv y) n)/\K (.d (.int k n)) r|_=>False
 |.rem=>match a with|.num n r=>Bq g (TC y 0)/\Bq g (BQ (x.tmod y) n)/\K (.d (.int k n)) r|_=>False
 |.shr=>match a with|.num n r=>Bq g (Tz 0 y)/\Bq g (BQ (x.fdiv (2^(min y.toNat k.bits))) n)/\K (.d (.int k n)) r|_=>False
 |.shl=>match a with|.num n r=>Bq g (Tz 0 y)/\Bq g (CQ k (x*2^(min y.toNat k.bits)) n)/\K (.d (.int k n)) r|_=>False
 |.and=>match a with|.num n r=>Bq g (BQ (DK k x y) n)/\K (.d (.int k n)) r|_=>False
 |.or=>match a with|.num n r=>Bq g (BQ (HG k x y) n)/\K (.d (.int k n)) r|_=>False
 |.xor=>match a with|.num n r=>Bq g (BQ (NI k x y) n)/\K (.d (.int k n)) r|_=>False
 |_=>False
def Uy(op:BinOp)(x y:ByteArray)(g:Option Bool)(a:AT)(K:AV->AT->Prop):Prop:=
 match op with
 |.add=>Bq g (s4 x y)/\K (.d (.str (x++y))) a
 |.eql=>K (.d (.bool (decide (x=y)))) a
 |.neq=>K (.d (.bool (!decide (x=y)))) a
 |.lss=>K (.d (.bool (BB x y))) a
 |.leq=>K (.d (.bool (BB x y||decide (x=y)))) a
 |.gtr=>K (.d (.bool (!(BB x y||decide (x=y))))) a
 |.geq=>K (.d (.bool (!BB x y))) a
 |_=>False
def Nr(H:Hp)(neg:Bool)(x:AV)(a:AT)(K:AV->AT->Prop):Prop:=
 match x with
 |.e0=>∀b,K (.d (.bool b)) a
 |.d (.list c)=>∀b,(c≠[]->b=neg)->K (.d (.bool b)) a
 |.ref k q _ n=>(match B5 H k q with|true=>∀b,(n≠0->b=neg)->K (.d (.bool b)) a|false=>False)
 |_=>False
def zK:IntKind->IntKind->Bool
 |.i8,.i8|.i16,.i16|.i32,.i32|.i64,.i64|.u8,.u8|.u16,.u16|.u32,.u32|.u64,.u64=>true
 |_,_=>false
theorem ZLa{a b:IntKind}(h:zK a b=true):a=b:=by cases a<;>cases b<;>first|rfl|cases h
def Ui(i:TI)(H:Hp)(op:BinOp)(c:Bool)(x y:AV)(g:Option Bool)(a:AT)(K:AV->AT->Prop):Prop:=
 match x,y with
 |.d (.int k m),.d (.int k' n)=>(match zK k k' with|true=>UQ op k m n g a K|false=>False)
 |.d (.str m),.d (.str n)=>Uy op m n g a K
 |.d (.bool m),.d (.bool n)=>(match Nat.beq i.kin 1 with
  |true=>(match op with
   |.eql=>K (.d (.bool (m==n))) a
   |.neq=>K (.d (.bool (!(m==n)))) a
   |_=>False)
  |false=>False)
 |.agg xs,.agg ys=>(match i.eqt with
  |some ks=>(match Fj ks xs ys with
   |some b=>(match op with
    |.eql=>K (.d (.bool b)) a
    |.neq=>K (.d (.bool (!b))) a
    |_=>False)
   |none=>False)
  |none=>False)
 |x,.e0=>(match c,Nat.beq i.kin 4 with
  |true,true=>(match op with
   |.eql=>Nr H false x a K
   |.neq=>Nr H true x a K
   |_=>False)
  |_,_=>False)
 |_,_=>False
def ZM(op:UnOp)(x:AV)(g:Option Bool)(a:AT)(K:AV->AT->Prop):Prop:=
 match op,x with
 |.not,.d (.bool b)=>K (.d (.bool (!b))) a
 |.neg,.d (.int k n)=>(match a with|.num m r=>Bq g (CQ k (0-n) m)/\K (.d (.int k m)) r|_=>False)
 |.xor,.d (.int k n)=>(match a with|.num m r=>Bq g (BQ (Kt k n) m)/\K (.d (.int k m)) r|_=>False)
 |_,_=>False
def Zl(s d:TI)(x:AV)(g:Option Bool)(a:AT)(K:AV->AT->Prop):Prop:=
 match x with
 |.d (.int _ n)=>(match s.ik,d.ik,a with|some _,some k,.num m r=>Bq g (CQ k n m)/\K (.d (.int k m)) r|_,_,_=>False)
 |.d (.str s')=>(match Nat.beq s.kin 2,Nat.beq d.kin 2 with|true,true=>K (.d (.str s')) a|_,_=>False)
 |_=>False
def Xl(i:TI)(H:Hp)(x:AV)(lo hi:Option AV)(e:Bool)(g:Option Bool)(a:AT)(K:AV->AT->Prop):Prop:=
 match e,a with
 |false,.nat l (.nat h r)=>(match x with
  |.d (.str s)=>(match Nat.beq i.kin 2 with|true=>Bq g (Dy 0 lo l)/\Bq g (Dy s.size hi h)/\Bq g (FD l h s.size)/\K (.d (.str (s.extract l h))) r|false=>False)
  |.d (.list es)=>(match i.elm,r with
   |some (_,sz),.av (.d (.list b)) r=>(match Nat.ble 1 sz with
    |true=>Bq g (Dy 0 lo l)/\Bq g (Dy es.length hi h)/\Bq g (FD l h es.length)/\Bq g (PG es sz l h b)/\K (.d (.list b)) r
    |false=>False)
   |_,_=>False)
  |.ref k q off n=>(match i.elm,r,B5 H k q with
   |some (_,sz),.nat d (.nat c r),true=>(match Nat.ble 1 sz,Nat.beq (H k).sz sz with
    |true,true=>Bq g (Dy 0 lo l)/\Bq g (Dy n hi h)/\Bq g (FD l h n)/\Bq g (ai off l h d c)/\K (.ref k q d c) r
    |_,_=>False)
   |_,_,_=>False)
  |_=>False)
 |_,_=>False
def U1(i:TI)(H:Hp)(x:AV)(g:Option Bool)(a:AT)(K:AV->AT->Prop):Prop:=
 match x,a with
 |.d (.str s),.num n r=>(match Nat.beq i.kin 2 with|true=>Bq g (BQ s.size n)/\K (.d (.int .i64 n)) r|false=>False)
 |.d (.list es),.num n r=>(match Nat.beq i.kin 4 with|true=>Bq g (BQ es.length n)/\K (.d (.int .i64 n)) r|false=>False)
 |.e0,.num n r=>(match Nat.beq i.kin 4 with|true=>Bq g (BQ 0 n)/\K (.d (.int .i64 n)) r|false=>False)
 |.ref k q _ m,.num n r=>(match Nat.beq i.kin 4,B5 H k q with|true,true=>Bq g (BQ m n)/\K (.d (.int .i64 n)) r|_,_=>False)
 |_,_=>False
def i3(H:Hp):AV->Option (Bool×List (List D))
 |.d (.map q a)=>some (q,a)
 |.mp k g=>match B5 H k g,(H k).e with
  |true,.m q a=>some (q,a)
  |_,_=>none
 |_=>none
def zH:Bool->Bool->Bool
 |true,true=>true
 |false,false=>true
 |_,_=>false
theorem ZJ1{a b:Bool}(h:zH a b=true):a=b:=by cases a<;>cases b<;>first|rfl|cases h
def Sn(a:List (List D))(s:ByteArray)(z vs:List D)(ok:Bool):Prop:=(GA s a).isSome=ok/\(GA s a).getD z=vs
def XU(i:TI)(H:Hp)(x y:AV)(b:Bool)(g:Option Bool)(a:AT)(K:AV->AT->Prop):Prop:=
 match i.mp,i3 H x,y,a with
 |some (q,z),some (d,c),.d (.str s),.av (.d (.bool ok)) (.ds vs r)=>(match zH q d with
  |true=>Bq g (Sn c s z vs ok)/\K (Ph b q vs ok) r
  |false=>False)
 |_,_,_,_=>False
def kh(i:TI)(f:Nat):Option (Nat×Nat):=match Bp i.fld f with|some (o,n,_)=>some (o,n)|none=>none
def R7(i:TI)(cells:List AV):List (Nat×AV)->Option (List AV)
 |[]=>some cells
 |(f,v)::a=>match kh i f,Dp v with
  |some (off,size),some vs=>match Nat.beq vs.length size,Nat.ble (off+vs.length) cells.length with
   |true,true=>R7 i (cells.take off++vs++cells.drop (off+vs.length)) a
   |_,_=>none
  |_,_=>none
def W9(i:TI)(parts:List (Nat×AV))(a:AT)(K:AV->AT->Prop):Prop:=
 match i.str,i.zer with
 |true,some z=>(match R7 i z parts with|some cs=>K (.agg cs) a|none=>False)
 |_,_=>False
def Ks:AV->Bool
 |.fn (.yield _) _ _=>false
 |_=>true
def tV(T:Nat->Option TI)(H:Hp)(op:Op)(ρ:Operand->AV)(g:Option Bool)(a:AT)(K:AV->AT->Prop):Prop:=
 match op with
 |.move x=>K (ρ x) a
 |.assign x=>K (ρ x) a
 |.pick c x y=>match ρ c with|.d (.bool t)=>K (cq t (ρ x) (ρ y)) a|_=>False
 |.load t x=>match T t with|some i=>O7 i H (ρ x) g a K|none=>False
 |.fieldAddr t x f=>match T t with|some i=>V8 i H f (ρ x) a K|none=>False
 |.field t x f=>match T t with|some i=>Xg i f (ρ x) a K|none=>False
 |.indexAddr t x j=>match T t with|some i=>Wa i H (ρ x) (ρ j) g a K|none=>False
 |.index t x j=>match T t with|some i=>WT i (ρ x) (ρ j) g a K|none=>False
 |.extract x j=>match ρ x with|.tup vs=>(match Bp vs j with|some y=>K y a|none=>False)|_=>False
 |.binOp o t x y _=>match T t with|some i=>Ui i H o (K3 y) (ρ x) (ρ y) g a K|none=>False
 |.unOp o _ x=>ZM o (ρ x) g a K
 |.nilCheck x=>match ρ x with|.ptr k q off=>(match B5 H k q with|true=>K (.ptr k q off) a|false=>False)|.iptr cs off=>K (.iptr cs off) a|_=>False
 |.convert s d x=>match T s,T d with|some i,some j=>Zl i j (ρ x) g a K|_,_=>False
 |.makeInterface t x=>match T t with|some i=>(match i.str||i.elm.isSome,ρ x with|true,.agg xs=>(match Nu xs with|some ds=>K (.ifc t ds true) a|none=>False)|true,.d x=>K (.ifc t [x] false) a|_,_=>False)|none=>False
 |.typeAssert x _ t ok=>match T t with|some i=>(match i.str||i.elm.isSome,ρ x with|true,.ifc u ds q=>(match Nat.beq u t,upk q ds with|true,some v=>K (cond ok (.tup [v,.d (.bool true)]) v) a|_,_=>False)|_,_=>False)|none=>False
 |.makeFunc fn first b=>match fn with|.yield _=>False|fn=>K (.fn fn (first.toList.map ρ) (b.toList.map ρ)) a
 |.slice t x lo hi h=>match T t with|some i=>Xl i H (ρ x) (lo.map ρ) (hi.map ρ) h.isSome g a K|none=>False
 |.lookup t x y e=>match T t with|some i=>XU i H (ρ x) (ρ y) e g a K|none=>False
 |.build t parts=>match T t,parts.toList.all (λp=>Ks (ρ p.2))with|some i,true=>W9 i (parts.toList.map λp=>(p.1,ρ p.2)) a K|_,_=>False
 |.call c=>match c.callee,c.args.toList,c.argTypes.toList with
  |.builtin .len,[x],[t]=>match T t with|some i=>U1 i H (ρ x) g a K|none=>False
  |.builtin .min,[x,y],_=>EZ false (ρ x) (ρ y) (λv=>K v a)
  |.builtin .max,[x,y],_=>EZ true (ρ x) (ρ y) (λv=>K v a)
  |.builtin .max,[x,y,z],_=>Ie true (ρ x) (ρ y) (ρ z) (λv=>K v a)
  |_,_,_=>False
 |_=>False
end Go.Eng
