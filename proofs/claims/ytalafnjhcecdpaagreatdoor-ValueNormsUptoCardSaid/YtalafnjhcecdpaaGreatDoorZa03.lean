import Derived.Test.YtalafnjhcecdpaaGreatDoorZa02
import Derived.KernelRfl
import Derived.Still
import Derived.IntWalk
import Derived.Test.YtalafnjhcecdpaaGreatDoorZa00
namespace Go.Eng
set_option linter.all false
open Go Go.RowKit
def args(xs:List AV):Nat->AV:=λi=>(xs[i]?).getD .top
def Dx(l:Nat)(H:Hp):Hp:=λk=>if k.1<=l then H k else⟨0,false,0,0,[]⟩
def Jh(l:Nat)(H' H:Hp):Hp:=λk=>if k.1<=l then H' k else H k
def ER(P:Program)(σ:St):List ResultVar->(List AV->Prop)->Prop
 |[],K=>K []
 |.tmp t::b,K=>ER P σ b (λxs=>K (σ.s t::xs))
 |.cell a t::b,K=>EL P σ.H t (σ.s a) (λx=>ER P σ b (λxs=>K (x::xs)))
def DN:List AV->AV
 |[x]=>x
 |xs=>.tup xs
inductive Fz (H:Hp) (l:Nat):AV->AV->Prop
 |keep (x:AV) (h:x.low l=true):Fz H l x x
 |e0:Fz H l .e0 (.d (.list []))
 |mp (k:Ad) (a:Bool) (es:List (List D)) (hk:k.1=l+1) (hl:(H k).live=true) (he:(H k).e=.m a es):Fz H l (.mp k (H k).g) (.d (.map a es))
 |ref (k:Ad) (off n:Nat) (es:List (List D)) (hk:k.1=l+1) (hl:(H k).live=true) (hn:es.length=n) (hz:(H k).sz≠0) (he:∀e,e∈es->e.length=(H k).sz)
   (hlen:(off+n)*(H k).sz<=(H k).cells.length)
   (h:∀(i j:Nat) (e:List D) (d:D) (x:AV),es[i]?=some e->e[j]?=some d->(H k).cells[(off+i)*(H k).sz+j]?=some x->Fz H l x (.d d)):
   Fz H l (.ref k (H k).g off n) (.d (.list es))
 |agg (xs ys:List AV) (hl:xs.length=ys.length) (h:∀(i:Nat) (x y:AV),xs[i]?=some x->ys[i]?=some y->Fz H l x y):Fz H l (.agg xs) (.agg ys)
 |tup (xs ys:List AV) (hl:xs.length=ys.length) (h:∀(i:Nat) (x y:AV),xs[i]?=some x->ys[i]?=some y->Fz H l x y):Fz H l (.tup xs) (.tup ys)
def pO(P:Program)(fn:Func)(l:Nat)(H:Hp)(a:AV->Hp->Prop):Exit->St->Prop:=λe σ=>
 (e=.normal\/e=.ret)/\ER P σ fn.results.toList (λxs=>∃y,Fz σ.H l (DN xs) y/\a y (Jh l σ.H H))
section
variable {P:Program} {l n:Nat} {B:Base} {H H':Hp} {m m':Mu} {S S':Nat->Prop} {w w':World} {s:Nat->AV} {a:Act} {K:St->Prop} {o:Oper} {σ:St} {Q:Exit->St->Prop}
theorem ZqS{t:TypeId}{v b:Value}(h:(Instr.loadAt t v).run P w=.ok b w):(do loadVar t (<-asAddr v):Sem Value).run P w=.ok b w:=by
 cases v<;>try (simp[Instr.loadAt,Instr.sureAddr]at h;done)
 rename_i p;cases p with
 |none=>simp[Instr.loadAt,Instr.sureAddr]at h
 |some a=>simpa[Instr.loadAt,Instr.sureAddr,asAddr]using h
def PA(tmps:Array Value):ResultVar->Sem Value
 |.tmp t=>pure (tmps.getD t undef)
 |.cell p t=>do loadVar t (<-asAddr (tmps.getD p undef))
theorem dE(k:Ok (l+1) H m S w)(c:C5 (l+1) s H m S a w):∀(rs:List ResultVar) (K:List AV->Prop),ER P ⟨s,H⟩ rs K->
  ∃(vs:List Value) (xs:List AV),(rs.mapM (PA a.tmps)).run P w=.ok vs w/\xs.length=vs.length/\
   (∀(i:Nat) (x:AV) (v:Value),xs[i]?=some x->vs[i]?=some v->RepA w S H m (l+1) x v)/\K xs
 |[],K,h=>⟨[],[],by simp,rfl,λi x v h=>by simp at h,h⟩
 |.tmp t::b,K,h=>by
  obtain⟨vs,xs,f,g,n,j⟩:=dE k c b _ h;refine⟨a.tmps.getD t undef::vs,s t::xs,by simp only[R9,PA,Sem.run_bind,Sem.run_pure,Result.andThen_ok,f],by simp[g],λi x v hx d=>?_,j⟩;cases i with
  |zero=>simp at hx d;subst hx;subst d;simpa using c t
  |succ i=>exact n i x v (by simpa using hx) (by simpa using d)
 |.cell p t::b,K,h=>by
  obtain⟨v0,r,o,u,q⟩:=qI h (c p) k;obtain⟨vs,xs,f,g,n,j⟩:=dE k c b _ q;refine⟨v0::vs,r::xs,?_,by simp[g],λi x v hx d=>?_,j⟩
  ·have:=ZqS o;have e:(PA a.tmps (.cell p t)).run P w=.ok v0 w:=this;simp only[R9,Sem.run_bind,e,Sem.run_pure,Result.andThen_ok,f]
  grind
def N6(l:Nat)(H:Hp)(m:Mu)(S:Nat->Prop):Nat->Prop:=λb=>S b\/∃k:Ad,k.1=l+1/\(H k).live=true/\((m k).cap≠0\/(H k).e.isO=true)/\b=(m k).b
theorem Ok.fin(h:Ok (l+1) H m S w):Ok l H m (N6 l H m S) w/\Ext l H m S w H m (N6 l H m S) w:=by
 have n:Ext (l+1) H m S w H m (N6 l H m S) w:=⟨λ_ h=>.inl h,λ_ _=>rfl,λ_ _=>Yf _,λ_ _ _ h=>⟨h,rfl,rfl⟩,rfl,rfl,rfl,Yf _⟩;refine⟨⟨λb c=>?_,λq u=>h.empty q ae,λq u hl g=>?_,λq z u y=>h.inj q z ae ae,λq u hl g=>?_,
  ⟨λk p j=>(h.mp.o k ae j).mono (λ_ h=>.inl h) (λ_ _=>rfl) (λ_=>rfl),λk p j he=>?_,λk k' p s=>h.mp.i k k' ae ae⟩⟩,n.mono ae⟩
 ·rcases c with c|⟨k,p,hl,g,rfl⟩
  ·exact h.sub b c
  ·rcases g with g|g
   ·obtain⟨C,c,_⟩:=h.blk k ae hl g;grind
   ·obtain⟨o,c,_⟩:=(h.mp.o k ae hl).at g;grind
 ·rintro(hs|⟨k,p,f,a,e⟩)
  ·exact h.fresh q ae hl g hs
  ·rcases a with a|a
   ·have:=h.inj q k ae ae hl f g a e;grind
   ·obtain⟨o,c,r⟩:=(h.mp.o k ae f).at a;obtain⟨C,d,_⟩:=h.blk q ae hl g;rw[e,c]at d;cases d;cases r
 ·obtain⟨C,c,hs,t,hx⟩:=h.blk q ae hl g;exact⟨C,c,hs,t,λi x v hi j=>⟨(hx i x v hi j).1,(hx i x v hi j).2.ext n ae⟩⟩
 ·refine⟨(h.mp.c k ae j he).1,?_⟩;rintro(hs|⟨k',s,f,a,e⟩)
  ·exact(h.mp.c k ae j he).2 hs
  ·rcases a with a|a
   ·obtain⟨o,c,r⟩:=(h.mp.o k ae j).at he;obtain⟨C,d,_⟩:=h.blk k' ae f a;rw[<-e,c]at d;cases d;cases r
   ·have:=h.mp.i k k' ae ae j f he a e;grind
theorem Fz.sound{x y:AV}(h:Fz H l x y)(Q:Ok (l+1) H m S w):∀{v:Value},RepA w S H m (l+1) x v->RepA w (N6 l H m S) H m l y v:=by
 have t:Ext (l+1) H m S w H m (N6 l H m S) w:=⟨λ_ h=>.inl h,λ_ _=>rfl,λ_ _=>Yf _,λ_ _ _ h=>⟨h,rfl,rfl⟩,rfl,rfl,rfl,Yf _⟩
 induction h with
 |keep x h=>exact λhx=>(hx.ext t (Yf _)).low h
 |e0=>
  intro v hx;cases hx with
  |e0 N=>exact(RepA.e0 N).e0_d
 |mp k a es I hl he=>
  intro v hx;generalize F:(H k).g=g at hx;cases hx with
  |mpD _ _ _ p G s o=>rw[s F.symm]at hl;cases hl
  |mpL _ p q=>
   have U:=Q.mp.o k ae hl;rw[he]at U;obtain⟨ents,A,o,O⟩:=U;exact .d _ _ (.ofM (.inr ⟨k,I,hl,.inr (by rw[he];rfl),rfl⟩) o (O.mono (λ_ h=>.inl h) (λ_ _=>rfl)))
 |ref k off n es I hl J hz he f h u=>
  intro v hx;generalize F:(H k).g=g at hx;cases hx with
  |refD _ _ _ _ _ p G s o=>rw[s F.symm]at hl;cases hl
  |refL _ _ _ N p q T R=>
   by_cases K:n=0
   ·subst K;have:es=[]:=Jt J;subst this;cases N with
    |none=>
     have e:(m k).cap-off=0:=by
      rcases YL off (m k).cap with h|h
      ·have:=R h;cases this
      ·omega
     rw[e];exact .d _ _ .nil
    |some ad=>exact .d _ _ (.list [] ad 0 _ (λ_ _=>.bool true) (λh=>absurd rfl h) (Cn _) (λ_ h=>by cases h) (λi j e x h=>by simp at h) (λi j e x h=>by simp at h))
   ·have L:=R ae;subst L;obtain⟨E,C,o,O,Z,P⟩:=Q.row (k:=k) ae hl (by intro e;rw[e,Y1]at f;have:=Sj (show 0<n by omega) (show 0<(H k).sz by omega);simp at f;omega);have r:∀(i j:Nat) (e:List D) (d:D),es[i]?=some e->e[j]?=some d->(off+i)*(H k).sz+j<(H k).cells.length:=by
     intro i j e d hi c;have W:i<n:=by
      rw[<-J];rcases YL i es.length with h|h
      ·exact h
      ·rw[YT h]at hi;cases hi
     have X:j<(H k).sz:=by
      rw[<-he e (Yh hi)];rcases YL j e.length with h|h
      ·exact h
      ·rw[YT h]at c;cases c
     have:(off+i+1)*(H k).sz<=(off+n)*(H k).sz:=Y8 _ ae;rw[Y1 (off+i)]at this;omega
    have:=RepD.list (w:=w) (S:=N6 l H m S) es ⟨(m k).b,(m k).o+off*(H k).sz,none⟩ (H k).sz ((m k).cap-off) (λi j=>(C[(m k).o+((off+i)*(H k).sz+j)]?).getD undef)
     (λ_=>.inr ⟨k,I,hl,.inl E,rfl⟩) ae he
     (λi j e d hi c=>by obtain⟨v,z,_,_⟩:=P _ _ (Yd (r i j e d hi c));rw[Addr.add_lit,JY o,z];rw[show(m k).o+off*(H k).sz+(i*(H k).sz+j)=(m k).o+((off+i)*(H k).sz+j)from by rw[Y1];omega,z];rfl)
     (λi j e d hi c=>by
      obtain⟨v,z,Y,V⟩:=P _ _ (Yd (r i j e d hi c));rw[z];have:=u i j e d _ hi c (Yd (r i j e d hi c)) V;cases this with
      |d _ _ s=>exact s)
    rw[J]at this;exact .d _ _ this
 |agg xs ys hl h u=>
  intro v hx;cases hx with
  |agg _ vs q o B=>
   refine .agg _ _ ae o (λi y v hy M=>?_);have b:i<xs.length:=by
    rw[hl];rcases YL i ys.length with h|h
    ·exact h
    ·rw[YT h]at hy;cases hy
   exact u i _ y (Yd b) hy (B i _ v (Yd b) M)
 |tup xs ys hl h u=>
  intro v hx;cases hx with
  |tup _ vs q B=>
   refine .tup _ _ ae (λi y v hy M=>?_);have b:i<xs.length:=by
    rw[hl];rcases YL i ys.length with h|h
    ·exact h
    ·rw[YT h]at hy;cases hy
   exact u i _ y (Yd b) hy (B i _ v (Yd b) M)
theorem Zls{fn:Func}{KK:List AV->Prop}(j:Ok (l+1) H m S w)(k:C5 (l+1) s H m S a w)(h:ER P ⟨s,H⟩ fn.results.toList KK):
  ∃v xs,(results fn a.tmps).run P w=.ok v w/\RepA w S H m (l+1) (DN xs) v/\KK xs:=by
 obtain⟨vs,xs,d,c,b,g⟩:=dE j k _ _ h;have o:∀f:ResultVar->Sem Value,(∀r,f r=PA a.tmps r)->(fn.results.mapM f).run P w=.ok vs.toArray w:=by intro f n;have:f=PA a.tmps:=funext n;subst this;rw[iL];simp[d]
 refine⟨if h:vs.toArray.size=1 then vs.toArray[0]else .tuple vs.toArray,xs,?_,?_,g⟩
 ·unfold results;simp only[Sem.run_bind];rw[o _ (λr=>by cases r<;>rfl)];simp
 ·match xs,vs,c,b with
  |[x],[v],_,b=>exact b 0 x v rfl rfl
  |[],[],_,_=>exact .tup _ _ rfl (λi x v h=>by simp[DN]at h)
  |x::x'::xs,v::q::vs,c,b=>
   have e:¬((v::q::vs).toArray.size=1):=(by simp);rw[dif_neg e];exact .tup _ _ (by simpa using c) (λi x v hx p=>b i x v hx (by simpa using p))
theorem Zvl{P:Program}{f:FuncId}{fn:Func}{c:Code}{n l:Nat}{xs:List AV}{H:Hp}{s:AV->Hp->Prop}(hf:P.funcs[f]?=some fn)(hb:fn.body=some c)(G:(fn.name== "runtime.NumGoroutine")=false)
  (hn:fn.ntmps=n) (hx:xs.length<=n) (h:∀B:Base,BL P l n B c (pO P fn l H s) ⟨args xs,Dx l H⟩):Zc0 P f l xs H s:=by
 refine⟨⟨fn,c,hf,hb,G⟩,λm S w vs K j=>?_⟩;have a:∀k:Ad,k.1<=l->Dx l H k=H k:=λk g=>by unfold Dx;rw[Ym g]
 have hdead:∀k:Ad,¬k.1<=l->(Dx l H k).live=false:=λk g=>by unfold Dx;rw[Yk g]
 have u:∀k:Ad,(Dx l H k).live=true->k.1<=l:=λk hl=>by grind
 have X:Ok (l+1) (Dx l H) m S w:=by
  refine⟨K.sub,λq d hl o=>?_,λq d hl o=>?_,λq M d I hl t o J heq=>?_,λq d hl o=>?_,
   K.mp.stepL (λq _ hl _=>by have:=u q hl;rw[a q this]at hl⊢;exact⟨this,hl,rfl,rfl⟩) (λ_ h=>h) (λ_ h=>.inl h) (λ_ _=>rfl) (λ_ _ h _=>h)⟩
  ·have:=u q hl;rw[a q this]at hl⊢;exact K.empty q this hl o
  ·have:=u q hl;rw[a q this]at hl;exact K.fresh q this hl o
  ·have e:=u q hl;have e':=u M t;rw[a q e]at hl;rw[a M e']at t;exact K.inj q M e e' hl t o J heq
  ·have e:=u q hl;rw[a q e]at hl⊢;obtain⟨C,U,V,W,T⟩:=K.blk q e hl o;exact⟨C,U,V,W,λi x v hi O=>⟨(T i x v hi O).1,(T i x v hi O).2.agree (λk g=>a k ae) (λ_ _=>rfl)⟩⟩
 have hE:Ext l H m S w (Dx l H) m S w:=⟨λ_ h=>h,λ_ _=>rfl,λk g=>by rw[a k g];exact Yf _,λk g _ hl=>by rw[a k g]at hl⊢;exact⟨hl,rfl,rfl⟩,rfl,rfl,rfl,Yf _⟩;have hR:R l n ⟨H,m,S,w⟩ ⟨args xs,Dx l H⟩ {tmps:=vs++Array.replicate (fn.ntmps-vs.size) undef,defers:=[] } w:=by
  refine⟨m,S,X,by simp[hn];rw[<-j.1];omega,rfl,λi=>?_,hE⟩;simp only[args];cases hi:xs[i]? with
  |none=>exact .top _
  |some x=>
   have hlt:i<xs.length:=(by grind);have D:i<vs.size:=(by rw[<-j.1];exact hlt);rw[Yz,XJ D,Yv D];exact((j.2 i x _ hi (Yv D)).agree (λk g=>a k g) (λ_ _=>rfl)).lvl (Nat.le_succ l)
 refine calls_of_wp hf hb (wp_mono (h ⟨H,m,S,w⟩ _ w hR) λe a' w' ⟨σ',d,Y⟩=>?_);obtain⟨s',H'⟩:=σ';obtain⟨m',S',A,hn',hd',Z,N⟩:=Y.un;have done:ER P ⟨s',H'⟩ fn.results.toList (λxs=>∃y,Fz H' l (DN xs) y/\s y (Jh l H' H))->a'.defers=[]/\∃v,(results fn a'.tmps).run P w'=.ok v w'/\
   (∃r Q p E z,Ending.returned v=.returned Q/\s r p/\Ok l p E z w'/\RepA w' z p E l r Q/\Ext l H m S w p E z w'):=by
  intro hr;obtain⟨v,xs,U,V,y,W,T⟩:=Zls A Z hr;obtain⟨L,k2⟩:=A.fin;have b:∀k:Ad,k.1<=l->Jh l H' H k=H' k:=λk g=>by unfold Jh;rw[Ym g]
  refine⟨hd',v,U,y,v,Jh l H' H,m',_,rfl,T,?_,(W.sound A V).agree b (λ_ _=>rfl),?_⟩
  ·refine⟨L.sub,λq d hl o=>?_,λq d hl o=>?_,λq M d I hl t o J heq=>?_,λq d hl o=>?_,
    L.mp.step (Yf _) (λq d hl _=>by rw[b q d]at hl⊢;exact⟨hl,rfl,rfl⟩) (λ_ h=>h) (λ_ h=>.inl h) (λ_ _=>rfl) (λ_ _ h _=>h)⟩
   ·rw[b q d]at hl⊢;exact L.empty q d hl o
   ·rw[b q d]at hl;exact L.fresh q d hl o
   ·rw[b q d]at hl;rw[b M I]at t;exact L.inj q M d I hl t o J heq
   ·rw[b q d]at hl⊢;obtain⟨C,g1,g2,g3,g4⟩:=L.blk q d hl o;exact⟨C,g1,g2,g3,λi x v hi O=>⟨(g4 i x v hi O).1,(g4 i x v hi O).2.agree (λk g=>b k ae) (λ_ _=>rfl)⟩⟩
  ·have F:=Ext.trans (show Ext l H m S w H' m' S' w' from N) k2;exact⟨F.s,F.blk,λk g=>by rw[b k g];exact F.g k g,λk g hg hl=>by rw[b k g]at hg hl⊢;exact F.live k g hg hl,F.os,F.tape,F.output,F.size⟩
 rcases d.1 with rfl|rfl
 ·exact done d.2
 ·exact done d.2
end
end Go.Eng
namespace Go.Eng
set_option linter.all false
open Go Go.RowKit
section
variable {P:Program} {l n:Nat} {ds:List (Option Nat)} {ops rest:List Oper} {K:St->Prop} {s:Nat->AV} {H:Hp} {d:Option Nat} {op:Op} {ty:TypeId} {ps:String} {af:Array Edge} {g:Option (Nat×Bool)}
variable {x y:Operand} {t:TypeId}
theorem fS{l:Nat}{H:Hp}{k:Ad}(h:k.1<=l):Dx l H k=H k:=by unfold Dx;rw[Ym h]
theorem yl{l:Nat}{H:Hp}{i:Nat}:Dx l H (l+1,i)=⟨0,false,0,0,[]⟩:=by unfold Dx;rw[Yk (by simp)]
end
def Co(o:Oper):Bool:=o.dst.isSome&&match o.op with
 |.call c=>match c.callee with
  |.value _=>true
  |.builtin .len|.builtin .min|.builtin .max=>true
  |_=>false
 |.binOp _ _ _ y _=>!J1 y
 |.alloc _|.box _ _|.store _ _ _|.buildSlice _ _ _|.makeSlice _ _ _|.makeMap _ _|.range _ _|.next _ _|.entry _=>false
 |_=>true
def bd(o:Oper):Bool:=match o.op with
 |.buildSlice _ (_+1) _=>true
 |_=>false
def Db(o:Oper):Bool:=Co o||(o.dst.isSome&&bd o)
def od(P:Program)(t:TypeId)(len:Nat)(ps:List (Nat×AV))(v:AV):Prop:=
 ∃e sz z es,elm P t=some (e,sz)/\sz≠0/\(len+1)*sz<=16777216/\zer P e=some z/\z.length=sz/\Gh sz 0 ps=some es/\es.length=len+1/\v=.d (.list es)
def qV(P:Program)(l:Nat)(H:Hp)(o:Oper)(ρ:Operand->AV)(v:AV):Prop:=
 match o.op with
 |.buildSlice t (len+1) parts=>od P t len (parts.toList.map λp=>(p.1,ρ p.2)) v
 |.call c=>match c.callee with
  |.value f=>match ρ f with
   |.fn (.func g) first a=>Zc0 P g (l+1) (first++c.args.toList.map ρ++a) H (λy b=>y=v/\b=H)
   |_=>False
  |_=>A7 P H o.op ρ (λy=>y=v)
 |_=>A7 P H o.op ρ (λy=>y=v)
def F6(P:Program)(l n:Nat)(o:Oper)(K:St->Prop)(σ:St):Prop:=
 match o.op with
 |.buildSlice t (len+1) parts=>∃v,od P t len (parts.toList.map λp=>(p.1,ev σ.s p.2)) v/\CM n o.dst K σ v
 |.call c=>match c.callee with
  |.value f=>match ev σ.s f with
   |.fn (.func g) first a=>∃r,Zc0 P g (l+1) (first++c.args.toList.map (ev σ.s)++a) σ.H (λy b=>y=r/\b=σ.H)/\CM n o.dst K σ r
   |_=>False
  |_=>BA P l n o K σ
 |_=>BA P l n o K σ
def D5(P:Program)(l n:Nat)(ds:List (Option Nat)):List Oper->(St->Prop)->St->Prop
 |[],K,σ=>K σ
 |o::a,K,σ=>match o.guard with
  |none=>F6 P l n o (D5 P l n ds a K) σ
  |some (i,b)=>match Jg σ.s ds i b with
   |some t=>(t=true->F6 P l n o (D5 P l n ds a K) σ)/\(t=false->match o.dst with|some d=>d<n/\D5 P l n ds a K ⟨upd σ.s d (.tup []),σ.H⟩|none=>False)
   |none=>False
section
variable {P:Program} {l n:Nat} {B:Base} {H:Hp} {K K':AV->Prop} {t:TypeId} {x y:AV} {ρ ρ':Operand->AV}
theorem rT{op:BinOp}{k:IntKind}{a b:Int}(h:∀v,K v->K' v)(c:G1 op k a b K):G1 op k a b K':=by cases op<;>simp only[G1]at c⊢<;>first|exact h _ c|exact⟨c.1,h _ c.2⟩|exact c
theorem rH{op:BinOp}{a b:ByteArray}(h:∀v,K v->K' v)(c:GX op a b K):GX op a b K':=by cases op<;>simp only[GX]at c⊢<;>first|exact h _ c|exact⟨c.1,h _ c.2⟩|exact c
theorem Zv4{op:BinOp}{k:IntKind}{a b:Int}(c:G1 op k a b K):∃v,G1 op k a b (λy=>y=v)/\K v:=by cases op<;>simp only[G1]at c⊢<;>first|exact⟨_,rfl,c⟩|exact⟨_,⟨c.1,rfl⟩,c.2⟩|exact c.elim
theorem Zw7{op:BinOp}{a b:ByteArray}(c:GX op a b K):∃v,GX op a b (λy=>y=v)/\K v:=by cases op<;>simp only[GX]at c⊢<;>first|exact⟨_,rfl,c⟩|exact⟨_,⟨c.1,rfl⟩,c.2⟩|exact c.elim
theorem Zrm(h:EL P H t x K):∃v,EL P H t x (λy=>y=v)/\K v:=by
 unfold EL at h⊢;split at h
 ·grind
 ·grind
 grind
theorem ZjP{i:Nat}(h:Fh P H t i x K):∃v,Fh P H t i x (λy=>y=v)/\K v:=by unfold Fh at h⊢;grind
theorem Zqn{i:Nat}(h:Fl P t i x K):∃v,Fl P t i x (λy=>y=v)/\K v:=by
 unfold Fl at h⊢;split at h
 ·split at h
  ·grind
  grind
 grind
theorem ZjN(h:EA P H t x y K):∃v,EA P H t x y (λy=>y=v)/\K v:=by unfold EA at h⊢;grind
theorem Zp3(h:FT P t x y K):∃v,FT P t x y (λy=>y=v)/\K v:=by unfold FT at h⊢;grind
theorem ZxR{op:BinOp}{xs ys:List AV}(h:HC P op t xs ys K):∃v,HC P op t xs ys (λy=>y=v)/\K v:=by
 unfold HC at h⊢;split at h
 ·grind
 grind
theorem Zxb{op:BinOp}(h:CV P H op t false x y K):∃v,CV P H op t false x y (λy=>y=v)/\K v:=by
 unfold CV at h⊢;split at h
 ·obtain⟨v,a,b⟩:=Zv4 h.2;exact⟨v,⟨h.1,a⟩,b⟩
 ·exact Zw7 h
 ·grind
 ·exact ZxR h
 ·cases h.1
 grind
theorem wY{op:UnOp}(h:EY op x K):∃v,EY op x (λy=>y=v)/\K v:=by unfold EY at h⊢;grind
theorem ZtJ{u:TypeId}(h:Fo P t u x K):∃v,Fo P t u x (λy=>y=v)/\K v:=by unfold Fo at h⊢;grind
theorem ZpM{lo hi:Option AV}{a:Bool}(h:EG P H t x lo hi a K):∃v,EG P H t x lo hi a (λy=>y=v)/\K v:=by unfold EG at h⊢;grind
theorem ZuJ(h:D8 P H t x K):∃v,D8 P H t x (λy=>y=v)/\K v:=by unfold D8 at h⊢;grind
theorem ZqG{ps:List (Nat×AV)}(h:FU P t ps K):∃v,FU P t ps (λy=>y=v)/\K v:=by unfold FU at h⊢;grind
theorem xB{op:Op}(g:∀o t x y u,op=.binOp o t x y u->J1 y=false)(h:A7 P H op ρ K):∃v,A7 P H op ρ (λy=>y=v)/\K v:=by
 cases op<;>simp only[A7]at h⊢<;>try exact h.elim
 case move x=>exact⟨_,rfl,h⟩
 case assign x=>exact⟨_,rfl,h⟩
 case pick c a b=>
  split at h
  ·grind
  ·grind
 case load=>exact Zrm h
 case fieldAddr=>exact ZjP h
 case field=>exact Zqn h
 case indexAddr=>exact ZjN h
 case index=>exact Zp3 h
 case extract=>
  split at h
  ·grind
  ·grind
 case binOp o t x y u=>
  rw[g _ _ _ _ _ rfl]at h⊢;exact Zxb h
 case unOp=>exact wY h
 case convert=>exact ZtJ h
 case nilCheck=>
  unfold Jx at h⊢;split at h
  ·grind
  ·grind
  ·grind
 case makeFunc=>exact⟨_,rfl,h⟩
 case makeInterface=>
  obtain⟨d,h⟩:=h
  repeat' split at h
  all_goals first|exact h.elim|exact⟨_,⟨d,rfl⟩,h⟩
 case typeAssert=>
  obtain⟨d,h⟩:=h
  repeat' split at h
  all_goals first|exact h.elim|exact⟨_,⟨d,h.1,rfl⟩,h.2⟩
 case slice=>exact ZpM h
 case build=>exact ZqG h
 case lookup=>exact Zun h
 case call c=>
  split at h
  ·obtain⟨v,e,f⟩:=ZuJ h.2;exact⟨v,⟨h.1,e⟩,f⟩
  ·split at h
   ·unfold Ey at h⊢;grind
   ·unfold HJ at h⊢;grind
   grind
  ·grind
theorem sT{op:Op}(e:∀o t x y u,op=.binOp o t x y u->J1 y=false){v:AV}(d:K v)(h:A7 P H op ρ (λy=>y=v)):A7 P H op ρ K:=by
 have:(λy=>y=v)=(λy=>y=v/\K v):=by funext y;simp[d]
 rw[this]at h;clear this d;cases op<;>simp only[A7]at h⊢<;>try exact h.elim
 case move x=>exact h.1▸h.2
 case assign x=>exact h.1▸h.2
 case pick c a b=>
  split at h
  ·grind
  ·grind
 case load t x=>
  unfold EL at h⊢;split at h
  ·grind
  ·grind
  ·grind
 case fieldAddr=>
  unfold Fh at h⊢;split at h
  ·grind
  ·grind
  ·grind
 case field=>
  unfold Fl at h⊢;split at h
  ·split at h
   ·grind
   grind
  ·grind
 case indexAddr=>
  unfold EA at h⊢;split at h
  ·grind
  ·grind
  ·grind
 case index=>
  unfold FT at h⊢;split at h
  ·grind
  ·grind
 case makeInterface=>
  refine⟨h.1,?_⟩;replace h:=h.2
  repeat' split at h
  all_goals first|exact h.elim|exact h.1▸h.2
 case typeAssert=>
  refine⟨h.1,?_⟩;replace h:=h.2
  repeat' split at h
  all_goals first|exact h.elim|exact⟨h.1,h.2.1▸h.2.2⟩
 case extract=>
  split at h
  ·grind
  ·grind
 case binOp o t x y u=>
  rw[e _ _ _ _ _ rfl]at h⊢;unfold CV at h⊢;split at h
  ·exact⟨h.1,rT (λy (hy:y=v/\K v)=>hy.1▸hy.2) h.2⟩
  ·exact rH (λy (hy:y=v/\K v)=>hy.1▸hy.2) h
  ·grind
  ·unfold HC at h⊢;split at h
   ·split at h
    ·grind
    grind
   grind
  ·cases h.1
  ·grind
 case unOp=>
  unfold EY at h⊢;split at h<;>grind
 case nilCheck=>
  unfold Jx at h⊢;split at h
  ·grind
  ·grind
  ·grind
 case convert=>
  unfold Fo at h⊢;split at h
  ·grind
  ·grind
  ·grind
 case makeFunc=>exact h.1▸h.2
 case slice=>
  unfold EG at h⊢;split at h
  ·grind
  ·grind
  ·grind
  ·grind
 case build=>
  unfold FU at h⊢;split at h
  ·grind
  ·grind
 case lookup=>exact rI (λy (hy:y=v/\K v)=>hy.1▸hy.2) h
 case call c=>
  split at h
  ·refine⟨h.1,?_⟩;replace h:=h.2;unfold D8 at h⊢;grind
  ·split at h
   ·unfold Ey at h⊢;grind
   ·unfold HJ at h⊢;grind
   grind
  ·grind
theorem ec{o:Oper}(h:Db o=true)(a:∀t len ps,o.op=.buildSlice t (len+1) ps->False):Co o=true:=by
 unfold Db at h;rw[YB]at h;rcases h with h|h
 ·exact h
 ·exfalso;unfold bd at h;split at h
  ·rename_i e;exact a _ _ _ e
  ·simp at h
theorem dK{o:Oper}(a:Db o=true):∀b t x y u,o.op=.binOp b t x y u->J1 y=false:=by intro b t x y u h;simp only[Db,bd,Co,h,Gp,Mp,Yb,YO]at a;exact a.2
theorem sG{o:Oper}{v:AV}(h:∀x∈o.op.operands,ρ x=ρ' x)(a:qV P l H o ρ v):qV P l H o ρ' v:=by
 obtain⟨k,op,type,pos,after,guard⟩:=o;have d:∀g:Array Operand,(∀x∈g,ρ x=ρ' x)->g.toList.map ρ=g.toList.map ρ':=λg j=>Fa λx hx=>j x (by simpa using hx);cases op<;>simp only[Op.operands]at h<;>simp only[qV,A7]at a⊢<;>try exact a
 case call c=>
  have j:c.args.toList.map ρ=c.args.toList.map ρ':=d _ λx hx=>h x (by simp[Call.operands,hx]);cases i:c.callee with
  |value f=>
   have y:ρ f=ρ' f:=h f (by simp[Call.operands,i]);grind
  |invoke r m=>simp only[i]at a
  |builtin b=>
   simp only[i]at a⊢;split at a
   ·rename_i x t w q u;rw[<-h x (by simp[Call.operands,i,XA q])];exact a
   ·grind
   grind
 case build t ps=>
  have:(ps.toList.map λp=>(p.1,ρ p.2))=ps.toList.map λp=>(p.1,ρ' p.2):=Fa λp s=>by grind
  rw[<-this];exact a
 case buildSlice t n ps=>
  cases n with
  |zero=>exact a
  |succ n=>
   have:(ps.toList.map λp=>(p.1,ρ p.2))=ps.toList.map λp=>(p.1,ρ' p.2):=Fa λp s=>by grind
   simp only at a⊢;rw[<-this];exact a
 case makeFunc fn first e=>
  rw[<-d first λx hx=>h x (by simp[hx]),<-d e λx hx=>h x (by simp[hx])];exact a
 case slice t x lo hi z=>
  rw[<-h x (by simp),show lo.map ρ'=lo.map ρ from by cases lo<;>simp_all,show hi.map ρ'=hi.map ρ from by cases hi<;>simp_all];exact a
 all_goals(first|(simp_all;done))
theorem su{o:Oper}{s:Nat->AV}{K:St->Prop}(a:Db o=true)(h:F6 P l n o K ⟨s,H⟩):∃d v,o.dst=some d/\d<n/\qV P l H o (ev s) v/\K ⟨upd s d v,H⟩:=by
 have k:∃d,o.dst=some d:=by
  have:o.dst.isSome=true:=by
   unfold Db Co at a;rw[YB,Yb,Yb]at a;rcases a with h|h
   ·exact h.1
   ·exact h.1
  exact FH.1 this
 obtain⟨d,k⟩:=k;have plain:A7 P H o.op (ev s) (CM n o.dst K ⟨s,H⟩)->(∀v,A7 P H o.op (ev s) (λy=>y=v)->qV P l H o (ev s) v)->∃d v,o.dst=some d/\d<n/\qV P l H o (ev s) v/\K ⟨upd s d v,H⟩:=λh m=>by obtain⟨v,p,b⟩:=xB (dK a) h;rw[k]at b;exact⟨d,v,k,b.1,m v p,b.2⟩
 unfold F6 at h;split at h
 ·rename_i x;obtain⟨v,p,b⟩:=h;rw[k]at b;refine⟨d,v,k,b.1,?_,b.2⟩;unfold qV;rw[x];exact p
 ·rename_i c i;replace a:Co o=true:=ec a λt n ps e=>by rw[i]at e;cases e
  split at h
  ·rename_i f u;simp only[]at h;split at h
   ·rename_i g first z A
    obtain⟨r,p,b⟩:=h;rw[k]at b;refine⟨d,r,k,b.1,?_,b.2⟩;simp only[qV,i,u,A];exact p
   ·exact h.elim
  ·rename_i u;refine plain ?_ ?_
   ·unfold BA at h;simp only[i]at h;simp only[Co,i,Yb]at a;split at h
    ·rename_i f w;exact absurd w (u f)
    ·rename_i q;rw[q]at a;simp at a
    ·rw[i];exact h
   ·intro v m;unfold qV;rw[i]at m⊢;cases j:c.callee with
    |value f=>exact absurd j (u f)
    |_=>simpa[j]using m
 ·rename_i q i;replace a:Co o=true:=ec a λt n ps e=>q _ _ _ e;refine plain ?_ ?_
  ·unfold BA at h;split at h
   ·rename_i he;simp[Co,he]at a
   ·rename_i he;simp[Co,he]at a
   ·rename_i he;simp[Co,he]at a
   ·rename_i he;simp[Co,he]at a
   ·rename_i he;simp[Co,he]at a
   ·rename_i c he;exact absurd he (i c)
   ·exact h
  ·intro v m;unfold qV;split
   ·rename_i he;exact absurd he (q _ _ _)
   ·rename_i c he;exact absurd he (i c)
   ·exact m
theorem z2{o:Oper}{s:Nat->AV}{v:AV}{d:Nat}(q:Db o=true)(b:o.dst=some d)(a:d<n)(h:qV P l H o (ev s) v):CG P l n B o (λE=>E=⟨upd s d v,H⟩) ⟨s,H⟩:=by
 unfold qV at h;split at h
 ·rename_i t len parts k;obtain⟨e,sz,z,G,i,j,u,w,x,y,A,rfl⟩:=h;exact qA k b i j u w x y A a rfl
 ·rename_i c C;split at h
  ·rename_i f p;split at h
   ·rename_i g first m D
    refine sS C p D (h.mono λr F ⟨i,j⟩=>?_);subst i;subst j;rw[b];exact⟨a,rfl⟩
   grind
  ·rename_i p;exact UO (sT (dK q) (by rw[b];exact⟨a,rfl⟩) h)
 ·exact UO (sT (dK q) (by rw[b];exact⟨a,rfl⟩) h)
end
section
variable {P:Program} {l n:Nat} {B:Base} {H:Hp} {ops:Array Oper} {md:Region.Mode} {Q:(Nat->AV)->Prop}
def YA(P:Program)(l:Nat)(H:Hp)(ops:Array Oper)(o:Oper)(s:Nat->AV)(v:AV):Prop:=
 match o.guard with
 |none=>qV P l H o (ev s) v
 |some (i,b)=>match Jg s (ops.toList.map (·.dst)) i b with
  |some t=>(t=true->qV P l H o (ev s) v)/\(t=false->v=.tup [])
  |none=>False
theorem vT{o:Oper}{s:Nat->AV}{v u:AV}{d:Nat}(k:d∉o.looksAt ops)(h:YA P l H ops o (upd s d u) v):YA P l H ops o s v:=by
 have f:∀x∈o.op.operands,ev (upd s d u) x=ev s x:=λx hx=>by
  cases x with
  |tmp t=>
   have c:t≠d:=λe=>k (by subst e;exact Ib _ (List.mem_filterMap.2 ⟨.tmp t,by simpa using hx,rfl⟩));simp[ev,upd,c]
  |_=>rfl
 unfold YA at*;cases j:o.guard with
 |none=>simp only[j]at h⊢;exact sG f h
 |some m=>
  obtain⟨i,b⟩:=m;simp only[j]at h⊢;have g:Jg (upd s d u) (ops.toList.map (·.dst)) i b=Jg s (ops.toList.map (·.dst)) i b:=by
   unfold Jg;simp only[YR,YG];cases n:ops[i]? with
   |none=>rfl
   |some p=>
    cases a:p.dst with
    |none=>simp[a]
    |some t=>
     have c:t≠d:=λe=>k (by subst e;simp[Oper.looksAt,j,n,a]);simp[a,upd,c]
  rw[g]at h;split at h
  ·rename_i t q;exact⟨λe=>sG f (h.1 e),h.2⟩
  ·exact h
theorem yw{o:Oper}{s:Nat->AV}{v u:AV}{d:Nat}(a:d∉o.looksAt ops)(h:YA P l H ops o s v):YA P l H ops o (upd s d u) v:=by
 refine vT (d:=d) (u:=s d) a ?_;have:upd (upd s d u) d (s d)=s:=by funext j;unfold upd;split<;>simp_all
 grind
theorem Zwv{s:Nat->AV}{d e:Nat}{u v:AV}(h:d≠e):upd (upd s d u) e v=upd (upd s e v) d u:=by funext j;unfold upd;grind
end
def My(P:Program)(t:TypeId)(i:Nat):Option (Nat×Nat×Bool):=
 match P.underlying t with
 |some (.struct a)=>(a[i]?).bind λf=>(DO P f.type).map λb=>(f.offset,P.cellsOf f.type,b)
 |_=>none
def Pu(o:Option (Nat×Nat×Bool))(x:AV)(K:AV->Prop):Prop:=
 match o,x with
 |some (o,n,true),.agg cs=>n≠0/\K (.agg ((cs.drop o).take n))
 |some (o,_,false),.agg cs=>(match cs[o]? with|some c=>K c|none=>False)
 |_,_=>False
theorem Zt3{P:Program}{t:TypeId}{i:Nat}{x:AV}{K:AV->Prop}:Fl P t i x K=Pu (My P t i) x K:=by
 unfold Fl My;cases x with
 |agg cs=>
  cases j:P.underlying t with
  |none=>rfl
  |some d=>
   cases d with
   |struct a=>
    simp only;cases g:a[i]? with
    |none=>rfl
    |some f=>
     simp only[Ya];cases c:DO P f.type with
     |none=>rfl
     |some b=>cases b<;>rfl
   |_=>rfl
 |_=>
  have e:∀(o:Option (Nat×Nat×Bool)) (y:AV),(∀cs,y≠.agg cs)->Pu o y K=False:=λo y h=>by unfold Pu;grind
  grind
structure fins (P:Program) (l:Nat) (H:Hp) (rs:List ResultVar) (Post:AV->Hp->Prop) (e:Exit) (σ:St):Prop where
 he:e=.normal\/e=.ret
 hy:ER P σ rs (λxs=>∃y,Fz σ.H l (DN xs) y/\Post y (Jh l σ.H H))
inductive Fit:D->Prop
 |int (k:IntKind) (n:Int):Fit (.int k n)
 |bool (b:Bool):Fit (.bool b)
 |str (s:ByteArray) (h:s.size<2147483648):Fit (.str s)
 |list (es:List (List D)) (hl:es.length<2147483648) (h:∀e∈es,∀x∈e,Fit x):Fit (.list es)
def K9(l:List D):Prop:=∀d∈l,Fit d
theorem Fit.len{α:Type}{e:α->List D}{xs:List α}(h:Fit (.list (xs.map e))):xs.length<2147483648:=by cases h with|list _ hl h=>simpa using hl
theorem Fit.mem{α:Type}{e:α->List D}{xs:List α}(h:Fit (.list (xs.map e))){x:α}(hx:x∈xs):K9 (e x):=by cases h with|list _ hl h=>exact h _ (XF hx)
theorem Fit.el{α:Type}{e:α->List D}{xs:List α}(h:Fit (.list (xs.map e))){i:Nat}{x:α}(hx:xs[i]?=some x):K9 (e x):=h.mem (Yh hx)
theorem K9.at{l:List D}(h:K9 l)(i:Nat){d:D}(hi:l[i]?=some d):Fit d:=h d (Yh hi)
theorem K9.sub{l:List D}(h:K9 l)(i n:Nat){m:List D}(hi:(l.drop i).take n=m):K9 m:=by subst hi;exact λd a=>h d (XB (Sc a))
def nrm:AV->AV
 |.e0=>.d (.list [])
 |.agg xs=>.agg (xs.map λx=>match x with|.e0=>.d (.list [])|x=>x)
 |x=>x
section
variable {P:Program} {l n:Nat} {B:Base} {H H':Hp} {K:St->Prop} {σ σ':St} {Q:Exit->St->Prop} {s:Nat->AV} {ds:List (Option Nat)} {d:Option Nat} {op:Op} {ty:TypeId} {ps:String} {af:Array Edge} {rest:List Oper}
 {g:Option (Nat×Bool)} {x y:Operand} {t:TypeId}
theorem dZ{a b:Code}(h:BL P l n B a (ka (BL P l n B b Q) Q) σ):BL P l n B (.seq a b) Q σ:=yA λ_ c=>Ik h λe σ' h=>by cases e<;>first|exact c σ' h|exact h
theorem Nz{a:Int}{i:Nat}(h:a=(i:Int))(hi:i<9223372036854775808):IntKind.wrap .i64 a=(i:Int):=by subst h;exact IntWalk.i64_in _ ⟨ae,ae⟩
theorem ZvW{f:FuncId}{fn:Func}(g:List ResultVar){c:Code}{xs:List AV}{a:AV->Hp->Prop}(j:P.funcs[f]?=some fn)(i:fn.body=some c)(b:(fn.name== "runtime.NumGoroutine")=false)
  (k:fn.ntmps=n) (m:fn.results.toList=g) (hx:xs.length<=n) (h:∀B:Base,BL P l n B c (fins P l H g a) ⟨args xs,Dx l H⟩):Zc0 P f l xs H a:=by
 refine Zvl j i b k hx λB=>Ik (h B) λe σ d=>?_;unfold pO;rw[m];exact⟨d.he,d.hy⟩
theorem Fz.data{xs:List D}:Fz H' l (.agg (xs.map .d)) (.agg (xs.map .d)):=
 .agg _ _ rfl λi x y hx hy=>by
  rw[hx]at hy;cases hy;rw[YR]at hx;cases hi:xs[i]? with
  |none=>rw[hi]at hx;cases hx
  |some d=>rw[hi]at hx;cases hx;exact .keep _ rfl
theorem Fz.pure{xs:List AV}{ds:List D}(h:DK xs=some ds):Fz H' l (.agg xs) (.agg (ds.map .d)):=
 .agg _ _ (by rw[YF];exact dR h) λi x y hx hy=>by
  rw[YR]at hy;cases hi:ds[i]? with
  |none=>rw[hi]at hy;cases hy
  |some d=>
   rw[hi]at hy;cases hy;have:=sm h hx hi;cases x<;>simp only[GP]at this<;>cases this
   ·exact .keep _ rfl
   ·exact .e0
theorem Fz.d'{x:AV}{y:D}(h:x=.d y):Fz H' l x (.d y):=by subst h;exact .keep _ rfl
theorem Fz.two{x y x' e:AV}(hx:Fz H' l x x')(hy:Fz H' l y e):Fz H' l (DN [x,y]) (.tup [x',e]):=
 .tup _ _ rfl λi a b c d=>by
  match i with
  |0=>cases c;cases d;exact hx
  |1=>cases c;cases d;exact hy
  |i+2=>simp at c
theorem Fz.one{x x':AV}(hx:Fz H' l x x'):Fz H' l (DN [x]) x':=hx
theorem RepA.nrm{S:Nat->Prop}{m:Mu}{w:World}{x:AV}{v:Value}(h:RepA w S H m l x v):RepA w S H m l (nrm x) v:=by
 cases x with
 |e0=>exact h.e0_d
 |agg xs=>
  cases h with
  |agg _ vs hx a h=>
   refine .agg _ _ (by simpa using hx) a (λi y v hy b=>?_);rw[YR]at hy;cases hi:xs[i]? with
   |none=>rw[hi]at hy;cases hy
   |some x=>
    rw[hi]at hy;simp only[Y7,Yn]at hy;subst hy;have:=h i x v hi b;split
    ·exact this.e0_d
    grind
 |_=>exact h
theorem Zc0.nrm{f:FuncId}{xs:List AV}{a:AV->Hp->Prop}(h:Zc0 P f l (xs.map nrm) H a):Zc0 P f l xs H a:=
 ⟨h.1,λm S w vs c b=>h.2 m S w vs c ⟨by simpa using b.1,λi x v hx d=>by
  rw[YR]at hx;cases hi:xs[i]? with
  |none=>rw[hi]at hx;cases hx
  |some y=>
   rw[hi]at hx;simp only[Y7,Yn]at hx;subst hx;exact(b.2 i y v hi d).nrm⟩⟩
end
def QB:List Operand->List Nat
 |[]=>[]
 |.tmp t::r=>t::QB r
 |_::r=>QB r
def MF:List (Option Nat)->Nat->Option Nat
 |[],_=>none
 |x::_,0=>x
 |_::r,i+1=>MF r i
def F3(ds:List (Option Nat))(o:Oper):List Nat:=
 QB o.op.operands.toList++match o.guard with
  |some (g,_)=>(match MF ds g with|some d=>[d]|none=>[])
  |none=>[]
def FZ:List (Nat×Nat)->Nat->Option Nat
 |[],_=>none
 |(d,k)::r,t=>match Nat.beq d t with|true=>some k|false=>FZ r t
def Ce(o:Oper)(i:Nat):Bool:=o.after.toList.any λe=>Region.binds .any e&&Nat.beq e.on i
def clear(o:Oper)(d:Nat):List (Nat×Nat)->Bool
 |[]=>true
 |(t,i)::r=>(match Nat.beq t d with|true=>Ce o i|false=>true)&&clear o d r
theorem rY{o:Oper}{d i:Nat}:∀{l:List (Nat×Nat)},clear o d l=true->(d,i)∈l->Ce o i=true
 |[],_,h=>by cases h
 |(t,j)::r,a,h=>by
  simp only[clear,Yb]at a;rcases Yy.1 h with h|h
  ·cases h;have:=a.1;rw[Sh]at this;exact this
  ·exact rY a.2 h
def NT(ds:List (Option Nat)):Nat->List (Nat×Nat)->List (Nat×Nat)->List Oper->Bool
 |_,_,_,[]=>true
 |k,seen,looked,o::r=>
  (o.after.toList.all λe=>!Region.binds .any e||Nat.ble (e.on+1) k)&&
  ((F3 ds o).all λt=>match FZ seen t with|some i=>Ce o i|none=>true)&&
  match o.dst with
  |some d=>(FZ seen d).isNone&&clear o d looked&&NT ds (k+1) ((d,k)::seen) ((F3 ds o).map (·,k)++looked) r
  |none=>NT ds (k+1) seen ((F3 ds o).map (·,k)++looked) r
def Wa:List Oper->Bool
 |[]=>true
 |o::r=>(match o.op with|.select _ _=>false|_=>true)&&Wa r
def WF(ops:List Oper):Bool:=Wa ops&&NT (ops.map (·.dst)) 0 [] [] ops
theorem ZsG(xs:List Operand):QB xs=xs.filterMap λ|.tmp t=>some t|_=>none:=by
 induction xs with
 |nil=>rfl
 |cons x xs a=>cases x<;>simp[QB,a]
theorem tf:∀(ds:List (Option Nat)) (i:Nat),MF ds i=(ds[i]?).join
 |[],i=>by simp[MF]
 |x::r,0=>by simp[MF]
 |x::r,i+1=>by simp[MF,tf r i]
theorem sx(ops:List Oper)(o:Oper):F3 (ops.map (·.dst)) o=o.looksAt ops.toArray:=by
 unfold F3 Oper.looksAt;rw[ZsG];congr 1;cases d:o.guard with
 |none=>rfl
 |some a=>
  obtain⟨g,b⟩:=a;simp only;rw[tf,YR];simp only[iV];cases ops[g]? with
  |none=>rfl
  |some c=>simp only[Y7,Option.join_some,Ya];cases c.dst<;>rfl
structure FInv (ds:List (Option Nat)) (pre:List Oper) (seen:List (Nat×Nat)) (looked:List (Nat×Nat)):Prop where
 s1:∀d i,FZ seen d=some i->∃o,pre[i]?=some o/\o.dst=some d
 s2:∀(i:Nat) (o:Oper) (d:Nat),pre[i]?=some o->o.dst=some d->FZ seen d=some i
 lo:∀(i:Nat) (o:Oper),pre[i]?=some o->∀t∈F3 ds o,(t,i)∈looked
def U2(ds:List (Option Nat))(x y:Oper):Prop:=(∀d,x.dst=some d->d∉F3 ds y/\y.dst≠some d)/\(∀d,y.dst=some d->d∉F3 ds x)
theorem qW(ds:List (Option Nat)):∀(q pre:List Oper) (seen looked:List (Nat×Nat)),FInv ds pre seen looked->NT ds pre.length seen looked q=true->
  ∀(j:Nat) (n:Oper),q[j]?=some n->(∀e∈n.after,Region.binds .any e=true->e.on<pre.length+j)/\
   ∀(i:Nat) (m:Oper),i<pre.length+j->(pre++q)[i]?=some m->Ce n i=true\/U2 ds m n
 |[],pre,seen,looked,u,h,j,n,A=>by simp at A
 |o::r,pre,seen,looked,u,h,j,n,A=>by
  simp only[NT,Yb]at h;obtain⟨⟨G,H⟩,s⟩:=h;cases j with
  |zero=>
   simp only[Gs,Yn]at A;subst A;refine⟨λe he D=>?_,λi m hi f=>?_⟩
   ·have:=Yu.1 G e (by simpa using he);simp only[D,YN,Gq]at this;have:=Yj this;omega
   ·rw[Yw ae]at f;by_cases z:Ce o i=true
    ·exact .inl z
    ·right;refine⟨λd v=>⟨λhm=>?_,λg=>?_⟩,λd v hm=>?_⟩
     ·have:=Yu.1 H d hm;rw[u.s2 i m d f v]at this;exact z this
     ·rw[g]at s;simp only[Yb]at s;have:=s.1.1;rw[u.s2 i m d f v]at this;cases this
     ·rw[v]at s;simp only[Yb]at s;exact z (rY s.1.2 (u.lo i m f d hm))
  |succ j=>
   simp only[Mn]at A;have p:∀(c:List (Nat×Nat)),(∀d i,FZ c d=some i->∃l,(pre++[o])[i]?=some l/\l.dst=some d)->(∀(i:Nat) (l:Oper) (d:Nat),(pre++[o])[i]?=some l->l.dst=some d->FZ c d=some i)->
     FInv ds (pre++[o]) c ((F3 ds o).map (·,pre.length)++looked):=λc a b=>⟨a,b,λi l f t F=>by
    rcases R2 i pre.length with k|heq|B
    ·rw[Yw k]at f;exact iW _ (u.lo i l f t F)
    ·subst heq;simp at f;subst f;exact Ib _ (YV.2 ⟨t,F,rfl⟩)
    ·rw[YT (by simp;omega)]at f;cases f⟩
   have fin:∀c,FInv ds (pre++[o]) c ((F3 ds o).map (·,pre.length)++looked)->NT ds (pre.length+1) c ((F3 ds o).map (·,pre.length)++looked) r=true->_:=λc C J=>
    qW ds r (pre++[o]) c ((F3 ds o).map (·,pre.length)++looked) C (by simpa using J) j n A
   have conv:(∀e∈n.after,Region.binds .any e=true->e.on<(pre++[o]).length+j)/\(∀(i:Nat) (m:Oper),i<(pre++[o]).length+j->(pre++[o]++r)[i]?=some m->Ce n i=true\/U2 ds m n)->
     (∀e∈n.after,Region.binds .any e=true->e.on<pre.length+(j+1))/\(∀(i:Nat) (m:Oper),i<pre.length+(j+1)->(pre++o::r)[i]?=some m->Ce n i=true\/U2 ds m n):=by
    rintro⟨a,b⟩;simp only[Yt,D0,Hd,DZ,H5,He]at a b;exact⟨λe he D=>by have:=a e he D;omega,λi m hi f=>b i m ae f⟩
   split at s
   ·rename_i d v;simp only[Yb]at s;obtain⟨⟨E,K⟩,I⟩:=s;have y:FZ seen d=none:=(by cases w:FZ seen d with|none=>rfl|some i=>rw[w]at E;cases E);refine conv (fin _ (p ((d,pre.length)::seen) (λd' i w=>?_) (λi l d' f g=>?_)) I)
    ·simp only[FZ]at w;split at w
     ·rename_i he;cases w;rw[<-Ye he];exact⟨o,by simp,v⟩
     ·obtain⟨l,a,b⟩:=u.s1 d' i w;refine⟨l,?_,b⟩;rw[Yw];exact a;rcases YL i pre.length with k|x
      ·exact k
      ·rw[YT x]at a;cases a
    ·simp only[FZ];rcases R2 i pre.length with k|heq|B
     ·rw[Yw k]at f;have:=u.s2 i l d' f g;split
      ·rename_i he;rw[<-Ye he,y]at this;cases this
      ·exact this
     ·subst heq;simp at f;subst f;rw[v]at g;cases g;simp
     ·rw[YT (by simp;omega)]at f;cases f
   ·rename_i v;refine conv (fin _ (p seen (λd' i w=>?_) (λi l d' f g=>?_)) s)
    ·obtain⟨l,a,b⟩:=u.s1 d' i w;refine⟨l,?_,b⟩;rw[Yw];exact a;rcases YL i pre.length with k|x
     ·exact k
     ·rw[YT x]at a;cases a
    ·rcases R2 i pre.length with k|heq|B
     ·rw[Yw k]at f;exact u.s2 i l d' f g
     ·subst heq;simp at f;subst f;rw[v]at g;cases g
     ·rw[YT (by simp;omega)]at f;cases f
theorem Zly{ops:List Oper}{x y:Oper}(h:U2 (ops.map (·.dst)) x y):x.apart ops.toArray y=true:=by
 obtain⟨a,c⟩:=h;rw[sx]at c;have b:∀d,x.dst=some d->d∉y.looksAt ops.toArray/\y.dst≠some d:=λd e=>by have:=a d e;rw[sx]at this;exact this
 unfold Oper.apart;grind
theorem qR{ops:Array Oper}(l:∀(j:Nat) (b:Oper),ops[j]?=some b->∀e∈b.after,Region.binds .any e=true->e.on<j)
  (m:∀(i j:Nat) (n b:Oper),i<j->ops[i]?=some n->ops[j]?=some b->Ce b i=true\/n.apart ops b=true):
  ∀(fuel k:Nat) (listed:Array Bool),fuel+k=ops.size->listed.size=ops.size->(∀j,j<ops.size->listed[j]?=some (decide (j<k)))->Region.lexFrom .any ops fuel k listed=true
 |0,k,listed,p,hs,hl=>by simp only[Region.lexFrom];rw[List.isEmpty_iff,Region.ready,Xz];intro i hi;have hi:=R1.1 hi;have:=hl i hi;simp[Yz,this];omega
 |fuel+1,k,listed,p,hs,hl=>by
  have f:k<ops.size:=ae
  have a:ops[k]?=some ops[k]:=Yv f;simp only[Region.lexFrom,Yb];refine⟨⟨?_,?_⟩,qR l m fuel (k+1) _ ae (by simp[hs]) (λj c=>?_)⟩
  ·rw[List.contains_iff_mem];unfold Region.ready;refine Hf.2 ⟨R1.2 f,?_⟩;rw[Yb];refine⟨by simp[Yz,hl k f],?_⟩;rw[a];simp only[Y7,YI];rw[Array.all_eq_true_iff_forall_mem];intro e he;by_cases o:Region.binds .any e=true
   ·have:=l k _ a e he o;simp[Yz,hl e.on ae,this]
   grind
  ·unfold Region.free;rw[a];simp only[Yu,R1];intro j c;rw[YB,YB];rcases R2 j k with g|heq|d
   ·left;right;simp[Yz,hl j c,g]
   ·grind
   ·right;rw[Yv c];simp only;rw[YB];rcases m k j _ _ d a (Yv c)with h|h
    ·left;unfold Ce at h;obtain⟨e,he,h⟩:=YU.1 h;rw[<-Array.any_toList];exact YU.2 ⟨e,he,by simpa using h⟩
    grind
  grind
theorem qQ{ops:List Oper}(h:WF ops=true):Region.lexB .any ops.toArray=true:=by
 unfold WF at h;rw[Yb]at h;have g:∀(l:List Oper),Wa l=true->l.all (λo=>match o.op with|.select ..=>false|_=>true)=true:=λl=>by
  induction l with
  |nil=>intro _;rfl
  |cons o l p=>
   intro m;simp only[Wa,Yb]at m;grind
 have key:=qW (ops.map (·.dst)) ops [] [] [] ⟨λd i k=>by simp[FZ]at k,λi o d e=>by simp at e,λi o e=>by simp at e⟩ h.2;simp only[Hd,YX,He]at key;unfold Region.lexB;rw[Yb];refine⟨?_,qR (λj f b=>(key j f (by simpa using b)).1) (λi j n f c hi b=>?_) _ 0 _ rfl (by simp) (λj b=>by simp at b⊢;simp[b])⟩
 ·unfold Region.noSelect;grind
 ·rcases(key j f (by simpa using b)).2 i n c (by simpa using hi)with a|a
  ·grind
  ·exact .inr (Zly a)
structure TI where
 agg:Bool:=false
 kin:Nat:=0
 siz:Nat:=1
 elm:Option (Nat×Nat):=none
 fld:List (Nat×Nat×Bool):=[]
 zer:Option (List AV):=none
 eqt:Option (List Nat):=none
 str:Bool:=false
 ik:Option IntKind:=none
 byt:Option Nat:=none
 mp:Option (Bool×List D):=none
def AV.flat:AV->Bool
 |.d _|.e0|.p _|.iptr _ _=>true
 |_=>false
structure TIok (P:Program) (t:TypeId) (i:TI):Prop where
 agg:DO P t=some i.agg
 kin:kin P t=i.kin
 siz:P.cellsOf t=i.siz
 elm:∀e,i.elm=some e->Go.Eng.elm P t=some e
 fld:∀(j:Nat) (x:Nat×Nat×Bool),i.fld[j]?=some x->Go.Eng.fld P t j=some (x.1,x.2.1)/\My P t j=some x
 zer:∀z,i.zer=some z->Go.Eng.zer P t=some z
 eqt:∀z,i.eqt=some z->Om P t=some z
 str:i.str=true->MM P t=true
 ik:∀z,i.ik=some z->P.underlying t=some (.int z)
 byt:∀z,i.byt=some z->P.bytesOf t<=z/\P.bytesOf t≠0
 flt:∀z,i.zer=some z->z.all AV.flat=true
 mp:∀z,i.mp=some z->ML P t=some z
def Ba(P:Program)(T:Nat->Option TI):Prop:=∀t i,T t=some i->TIok P t i
inductive AT where
 |nil
 |go (r:AT)
 |av (x:AV) (r:AT)
 |cs (c:List AV) (r:AT)
 |ds (e:List D) (r:AT)
 |num (n:Int) (r:AT)
 |nat (n:Nat) (r:AT)
 |call (x:AV) (ks:List Ad) (r:AT)
 |callH (x:AV) (ks:List Ad) (hb:List (Ad×List AV)) (r:AT)
 |br (a b:AT)
 |frz (d:Nat) (js:List (Nat×List (List D))) (cs:List (Ad×Nat×List (List D))) (r:AT)
 |adc (k:Ad) (i d:Nat) (e:TypeId) (sz:Nat) (r:AT)
 |mv (d j:Nat) (r:AT)
 |ads (j d:Nat) (e:TypeId) (sz:Nat) (r:AT)
 |trim (k:Ad) (c:List AV) (r:AT)
 |reb (j d m:Nat) (c:List AV) (r:AT)
 |sep (r:AT)
 |hard (x:AV) (ks:List Ad) (hb:List (Ad×Blk)) (fr:List Ad) (r:AT)
 |ents (es:List (List D)) (r:AT)
 |all (a:AT) (f:Nat->AT)
 |fzm (d:Nat) (js:List Nat) (r:AT)
 |fzb (d:Nat) (js:List Nat) (r:AT)
 |rnm (d d' e i:Nat) (r:AT)
 |mvc (d q e i:Nat) (r:AT)
 |one (v:Bool) (r:AT)
structure Ren where
 κ:Ad->Ad
 γ:Ad->Nat
 θ:Nat->AV
 H0:Hp
 no:Ad->Prop
mutual
def ren(r:Ren):AV->AV
 |.ref k g off n=>.ref (r.κ k) (r.γ k+g) off n
 |.ptr k g off=>.ptr (r.κ k) (r.γ k+g) off
 |.mp k g=>.mp (r.κ k) (r.γ k+g)
 |.fn f xs ys=>match f with
  |.yield i=>r.θ i
  |f=>.fn f (Ao r xs) (Ao r ys)
 |.agg xs=>.agg (Ao r xs)
 |.tup xs=>.tup (Ao r xs)
 |.top=>.top
 |.d x=>.d x
 |.e0=>.e0
 |.p x=>.p x
 |.iptr cs off=>.iptr cs off
 |.ifc t ds a=>.ifc t ds a
def Ao(r:Ren):List AV->List AV
 |[]=>[]
 |x::xs=>ren r x::Ao r xs
end
def AJ(r:Ren)(k:Ad)(b:Blk):Blk:=⟨r.γ k+b.g,true,b.e,b.sz,Ao r b.cells⟩
theorem FS{r:Ren}(xs:List AV):Ao r xs=xs.map (ren r):=by
 induction xs with
 |nil=>simp[Ao]
 |cons x xs a=>simp[Ao,a]
theorem CR{r:Ren}(xs:List AV):(Ao r xs).length=xs.length:=by rw[FS,YF]
theorem Hn{r:Ren}(xs ys:List AV):Ao r (xs++ys)=Ao r xs++Ao r ys:=by simp[FS]
theorem Fg{r:Ren}(xs:List AV)(n:Nat):(Ao r xs).drop n=Ao r (xs.drop n):=by simp[FS]
theorem FR{r:Ren}(xs:List AV)(n:Nat):(Ao r xs).take n=Ao r (xs.take n):=by simp[FS]
theorem In{r:Ren}(xs:List AV)(n:Nat):(Ao r xs)[n]?=(xs[n]?).map (ren r):=by simp[FS]
theorem Iq{r:Ren}(xs:List D):Ao r (xs.map .d)=xs.map .d:=by
 induction xs with
 |nil=>simp[Ao]
 |cons x xs a=>simp only[YZ,Ao,ren,a]
theorem Zyl{r:Ren}{xs:List AV}(h:xs≠[]):Ao r xs≠[]:=by cases xs<;>simp_all[Ao]
def DV(r:Ren)(H a:Hp):Prop:=∀k,(H k).live=true->a (r.κ k)=AJ r k (H k)
def Bl{α:Type}:List α->Nat->Option α
 |[],_=>none
 |x::_,0=>some x
 |_::xs,i+1=>Bl xs i
theorem Cp{α:Type}:∀(xs:List α) (i:Nat),Bl xs i=xs[i]?
 |[],i=>by simp[Bl]
 |x::xs,0=>by simp[Bl]
 |x::xs,i+1=>by simp[Bl,Cp xs i]
def J7{α:Type}:Nat->List α->Option (List α)
 |0,_=>some []
 |n+1,x::xs=>match J7 n xs with|some r=>some (x::r)|none=>none
 |_+1,[]=>none
theorem ee{α:Type}:∀(n:Nat) (xs r:List α),J7 n xs=some r->xs.take n=r/\n<=xs.length
 |0,xs,r,h=>by simp only[J7,Yn]at h;subst h;simp
 |n+1,[],r,h=>by simp[J7]at h
 |n+1,x::xs,r,h=>by
  simp only[J7]at h;split at h
  ·rename_i q a;cases h;obtain⟨b,c⟩:=ee n xs q a;grind
  ·cases h
def BX(H:Hp)(k:Ad)(g:Nat):Bool:=Nat.beq g (H k).g&&(H k).live
theorem ED{H:Hp}{k:Ad}{g:Nat}(h:BX H k g=true):g=(H k).g/\(H k).live=true:=by simp only[BX,Yb]at h;exact⟨Ye h.1,h.2⟩
theorem DV.at{r:Ren}{H a:Hp}(h:DV r H a){k:Ad}{g:Nat}(hl:BX H k g=true):r.γ k+g=(a (r.κ k)).g/\(a (r.κ k)).live=true/\(a (r.κ k)).e=(H k).e/\(a (r.κ k)).sz=(H k).sz/\(a (r.κ k)).cells=Ao r (H k).cells:=by obtain⟨b,c⟩:=ED hl;rw[h k c];subst b;exact⟨rfl,rfl,rfl,rfl,rfl⟩
def Bm(g:Option Bool)(S:Prop):Prop:=
 match g with
 |none=>S
 |some b=>b=true->S
theorem Bw{g:Option Bool}{S:Prop}(a:∀b,g=some b->b=true)(h:Bm g S):S:=by unfold Bm at h;grind
def D3(cs:List AV)(off:Nat)(c:List AV):Prop:=(cs.drop off).take c.length=c
def Kh(a:List (List D))(n:Int)(e:List D):Prop:=0<=n/\a[n.toNat]?=some e
def MX(n:Int)(len off sz o:Nat):Prop:=0<=n/\n<len/\(off+n.toNat)*sz=o
def Kl(s:ByteArray)(n b:Int):Prop:=0<=n/\∃x:UInt8,s.data.toList[n.toNat]?=some x/\b=x.toNat
def Cz(k:IntKind)(a r:Int):Prop:=k.wrap a=r
def BJ(a b:Int):Prop:=a=b
def RV(a b:Int):Prop:=a≠b
def RU(a b:Int):Prop:=a<=b
def pU(a b:ByteArray):Prop:=a.size+b.size<=9223372036854775807
def Dk(dflt:Nat)(o:Option AV)(l:Nat):Prop:=
 match o with
 |none=>l=dflt
 |some (.d (.int _ n))=>n=l
 |_=>False
def E1(l h n:Nat):Prop:=l<=h/\h<=n
def OI(es:List (List D))(sz l h:Nat)(a:List (List D)):Prop:=(∀e,e∈es->e.length=sz)/\(es.drop l).take (h-l)=a
def Xq(off l h o n:Nat):Prop:=off+l=o/\h-l=n
def XY(t:Bool)(a b:AV):AV:=
 match a,b with
 |.d (.bool x),.d (.bool y)=>.d (.bool (cond t x y))
 |a,b=>cond t a b
theorem Zvc(t:Bool)(a b:AV):XY t a b=if t then a else b:=by unfold XY;grind
def N3(i:TI)(H:Hp)(x:AV)(g:Option Bool)(a:AT)(K:AV->AT->Prop):Prop:=
 match x with
 |.iptr cs off=>match i.agg with
  |true=>match Nat.ble 1 i.siz,J7 i.siz (cs.drop off)with|true,some c=>K (.agg (c.map .d)) a|_,_=>False
  |false=>match Bl cs off with|some c=>K (.d c) a|none=>False
 |.ptr k q off=>match BX H k q with
  |true=>match a with
   |.go r=>(match i.agg with
    |true=>match Nat.ble 1 i.siz,J7 i.siz ((H k).cells.drop off)with|true,some c=>K (.agg c) r|_,_=>False
    |false=>match Bl (H k).cells off with|some c=>K c r|none=>False)
   |.cs c r=>(match i.agg with
    |true=>match Nat.ble 1 i.siz,Nat.beq c.length i.siz with|true,true=>Bm g (D3 (H k).cells off c)/\K (.agg c) r|_,_=>False
    |false=>match c with|[x]=>Bm g (D3 (H k).cells off [x])/\K x r|_=>False)
   |_=>False
  |false=>False
 |_=>False
def Uj(i:TI)(H:Hp)(f:Nat)(x:AV)(a:AT)(K:AV->AT->Prop):Prop:=
 match Bl i.fld f with
 |some (o,n,_)=>match Nat.ble 1 n with
  |true=>(match x with
   |.iptr cs off=>K (.iptr cs (off+o)) a
   |.ptr k q off=>match BX H k q with|true=>K (.ptr k q (off+o)) a|false=>False
   |_=>False)
  |false=>False
 |none=>False
def Vg(i:TI)(f:Nat)(x:AV)(a:AT)(K:AV->AT->Prop):Prop:=
 match Bl i.fld f,x with
 |some (o,n,true),.agg cs=>(match Nat.ble 1 n with|true=>K (.agg ((cs.drop o).take n)) a|false=>False)
 |some (o,_,false),.agg cs=>(match Bl cs o with|some c=>K c a|none=>False)
 |_,_=>False
def Ug(i:TI)(H:Hp)(x j:AV)(g:Option Bool)(a:AT)(K:AV->AT->Prop):Prop:=
 match i.elm,j with
 |some (_,sz),.d (.int _ n)=>(match x,a with
  |.d (.list b),.ds e r=>(match Nat.beq e.length sz,Nat.ble 1 sz with|true,true=>Bm g (Kh b n e)/\K (.iptr e 0) r|_,_=>False)
  |.ref k q off len,.nat o r=>(match BX H k q,Nat.beq (H k).sz sz,Nat.ble 1 sz with|true,true,true=>Bm g (MX n len off sz o)/\K (.ptr k q o) r|_,_,_=>False)
  |_,_=>False)
 |_,_=>False
def Vb(i:TI)(x j:AV)(g:Option Bool)(a:AT)(K:AV->AT->Prop):Prop:=
 match x,j,a with
 |.d (.str s),.d (.int _ n),.num b r=>(match Nat.beq i.kin 2 with|true=>Bm g (Kl s n b)/\K (.d (.int .u8 b)) r|false=>False)
 |_,_,_=>False
def SW(op:BinOp)(k:IntKind)(x y:Int)(g:Option Bool)(a:AT)(K:AV->AT->Prop):Prop:=
 match op with
 |.eql=>K (.d (.bool (decide (x=y)))) a
 |.neq=>K (.d (.bool (!decide (x=y)))) a
 |.lss=>K (.d (.bool (decide (x<y)))) a
 |.leq=>K (.d (.bool (decide (x<=y)))) a
 |.gtr=>K (.d (.bool (decide (y<x)))) a
 |.geq=>K (.d (.bool (decide (y<=x)))) a
 |.add=>match a with|.num n r=>Bm g (Cz k (x+y) n)/\K (.d (.int k n)) r|_=>False
 |.sub=>match a with|.num n r=>Bm g (Cz k (x-y) n)/\K (.d (.int k n)) r|_=>False
 |.mul=>match a with|.num n r=>Bm g (Cz k (x*y) n)/\K (.d (.int k n)) r|_=>False
 |.quo=>match a with|.num n r=>Bm g (RV y 0)/\Bm g (Cz k (x.tdiv y) n)/\K (.d (.int k n)) r|_=>False
 |.rem=>match a with|.num n r=>Bm g (RV y 0)/\Bm g (BJ (x.tmod y) n)/\K (.d (.int k n)) r|_=>False
 |.shr=>match a with|.num n r=>Bm g (RU 0 y)/\Bm g (BJ (x.fdiv (2^(min y.toNat k.bits))) n)/\K (.d (.int k n)) r|_=>False
 |.shl=>match a with|.num n r=>Bm g (RU 0 y)/\Bm g (Cz k (x*2^(min y.toNat k.bits)) n)/\K (.d (.int k n)) r|_=>False
 |.and=>match a with|.num n r=>Bm g (BJ (Du k x y) n)/\K (.d (.int k n)) r|_=>False
 |.or=>match a with|.num n r=>Bm g (BJ (G5 k x y) n)/\K (.d (.int k n)) r|_=>False
 |.xor=>match a with|.num n r=>Bm g (BJ (Mx k x y) n)/\K (.d (.int k n)) r|_=>False
 |_=>False
def SD(op:BinOp)(x y:ByteArray)(g:Option Bool)(a:AT)(K:AV->AT->Prop):Prop:=
 match op with
 |.add=>Bm g (pU x y)/\K (.d (.str (x++y))) a
 |.eql=>K (.d (.bool (decide (x=y)))) a
 |.neq=>K (.d (.bool (!decide (x=y)))) a
 |.lss=>K (.d (.bool (Bt x y))) a
 |.leq=>K (.d (.bool (Bt x y||decide (x=y)))) a
 |.gtr=>K (.d (.bool (!(Bt x y||decide (x=y))))) a
 |.geq=>K (.d (.bool (!Bt x y))) a
 |_=>False
def MN(H:Hp)(neg:Bool)(x:AV)(a:AT)(K:AV->AT->Prop):Prop:=
 match x with
 |.e0=>∀b,K (.d (.bool b)) a
 |.d (.list c)=>∀b,(c≠[]->b=neg)->K (.d (.bool b)) a
 |.ref k q _ n=>(match BX H k q with|true=>∀b,(n≠0->b=neg)->K (.d (.bool b)) a|false=>False)
 |_=>False
def v8:IntKind->IntKind->Bool
 |.i8,.i8|.i16,.i16|.i32,.i32|.i64,.i64|.u8,.u8|.u16,.u16|.u32,.u32|.u64,.u64=>true
 |_,_=>false
theorem ZIG{a b:IntKind}(h:v8 a b=true):a=b:=by cases a<;>cases b<;>first|rfl|cases h
def Tn(i:TI)(H:Hp)(op:BinOp)(c:Bool)(x y:AV)(g:Option Bool)(a:AT)(K:AV->AT->Prop):Prop:=
 match x,y with
 |.d (.int k m),.d (.int k' n)=>(match v8 k k' with|true=>SW op k m n g a K|false=>False)
 |.d (.str m),.d (.str n)=>SD op m n g a K
 |.d (.bool m),.d (.bool n)=>(match Nat.beq i.kin 1 with
  |true=>(match op with
   |.eql=>K (.d (.bool (m==n))) a
   |.neq=>K (.d (.bool (!(m==n)))) a
   |_=>False)
  |false=>False)
 |.agg xs,.agg ys=>(match i.eqt with
  |some ks=>(match EM ks xs ys with
   |some b=>(match op with
    |.eql=>K (.d (.bool b)) a
    |.neq=>K (.d (.bool (!b))) a
    |_=>False)
   |none=>False)
  |none=>False)
 |x,.e0=>(match c,Nat.beq i.kin 4 with
  |true,true=>(match op with
   |.eql=>MN H false x a K
   |.neq=>MN H true x a K
   |_=>False)
  |_,_=>False)
 |_,_=>False
def W4(op:UnOp)(x:AV)(g:Option Bool)(a:AT)(K:AV->AT->Prop):Prop:=
 match op,x with
 |.not,.d (.bool b)=>K (.d (.bool (!b))) a
 |.neg,.d (.int k n)=>(match a with|.num m r=>Bm g (Cz k (0-n) m)/\K (.d (.int k m)) r|_=>False)
 |.xor,.d (.int k n)=>(match a with|.num m r=>Bm g (BJ (JJ k n) m)/\K (.d (.int k m)) r|_=>False)
 |_,_=>False
def Wr(s d:TI)(x:AV)(g:Option Bool)(a:AT)(K:AV->AT->Prop):Prop:=
 match x with
 |.d (.int _ n)=>(match s.ik,d.ik,a with|some _,some k,.num m r=>Bm g (Cz k n m)/\K (.d (.int k m)) r|_,_,_=>False)
 |.d (.str s')=>(match Nat.beq s.kin 2,Nat.beq d.kin 2 with|true,true=>K (.d (.str s')) a|_,_=>False)
 |_=>False
def Vr(i:TI)(H:Hp)(x:AV)(lo hi:Option AV)(e:Bool)(g:Option Bool)(a:AT)(K:AV->AT->Prop):Prop:=
 match e,a with
 |false,.nat l (.nat h r)=>(match x with
  |.d (.str s)=>(match Nat.beq i.kin 2 with|true=>Bm g (Dk 0 lo l)/\Bm g (Dk s.size hi h)/\Bm g (E1 l h s.size)/\K (.d (.str (s.extract l h))) r|false=>False)
  |.d (.list es)=>(match i.elm,r with
   |some (_,sz),.av (.d (.list b)) r=>(match Nat.ble 1 sz with
    |true=>Bm g (Dk 0 lo l)/\Bm g (Dk es.length hi h)/\Bm g (E1 l h es.length)/\Bm g (OI es sz l h b)/\K (.d (.list b)) r
    |false=>False)
   |_,_=>False)
  |.ref k q off n=>(match i.elm,r,BX H k q with
   |some (_,sz),.nat d (.nat c r),true=>(match Nat.ble 1 sz,Nat.beq (H k).sz sz with
    |true,true=>Bm g (Dk 0 lo l)/\Bm g (Dk n hi h)/\Bm g (E1 l h n)/\Bm g (Xq off l h d c)/\K (.ref k q d c) r
    |_,_=>False)
   |_,_,_=>False)
  |_=>False)
 |_,_=>False
def TB(i:TI)(H:Hp)(x:AV)(g:Option Bool)(a:AT)(K:AV->AT->Prop):Prop:=
 match x,a with
 |.d (.str s),.num n r=>(match Nat.beq i.kin 2 with|true=>Bm g (BJ s.size n)/\K (.d (.int .i64 n)) r|false=>False)
 |.d (.list es),.num n r=>(match Nat.beq i.kin 4 with|true=>Bm g (BJ es.length n)/\K (.d (.int .i64 n)) r|false=>False)
 |.e0,.num n r=>(match Nat.beq i.kin 4 with|true=>Bm g (BJ 0 n)/\K (.d (.int .i64 n)) r|false=>False)
 |.ref k q _ m,.num n r=>(match Nat.beq i.kin 4,BX H k q with|true,true=>Bm g (BJ m n)/\K (.d (.int .i64 n)) r|_,_=>False)
 |_,_=>False
def gx(H:Hp):AV->Option (Bool×List (List D))
 |.d (.map q a)=>some (q,a)
 |.mp k g=>match BX H k g,(H k).e with
  |true,.m q a=>some (q,a)
  |_,_=>none
 |_=>none
def v6:Bool->Bool->Bool
 |true,true=>true
 |false,false=>true
 |_,_=>false
theorem zU{a b:Bool}(h:v6 a b=true):a=b:=by cases a<;>cases b<;>first|rfl|cases h
def Q6(a:List (List D))(s:ByteArray)(z vs:List D)(ok:Bool):Prop:=(F0 s a).isSome=ok/\(F0 s a).getD z=vs
def Wy(i:TI)(H:Hp)(x y:AV)(b:Bool)(g:Option Bool)(a:AT)(K:AV->AT->Prop):Prop:=
 match i.mp,gx H x,y,a with
 |some (q,z),some (d,c),.d (.str s),.av (.d (.bool ok)) (.ds vs r)=>(match v6 q d with
  |true=>Bm g (Q6 c s z vs ok)/\K (Oo b q vs ok) r
  |false=>False)
 |_,_,_,_=>False
def g9(i:TI)(f:Nat):Option (Nat×Nat):=match Bl i.fld f with|some (o,n,_)=>some (o,n)|none=>none
def Rl(i:TI)(cells:List AV):List (Nat×AV)->Option (List AV)
 |[]=>some cells
 |(f,v)::a=>match g9 i f,C9 v with
  |some (off,size),some vs=>match Nat.beq vs.length size,Nat.ble (off+vs.length) cells.length with
   |true,true=>Rl i (cells.take off++vs++cells.drop (off+vs.length)) a
   |_,_=>none
  |_,_=>none
def Vk(i:TI)(parts:List (Nat×AV))(a:AT)(K:AV->AT->Prop):Prop:=
 match i.str,i.zer with
 |true,some z=>(match Rl i z parts with|some cs=>K (.agg cs) a|none=>False)
 |_,_=>False
def JB:AV->Bool
 |.fn (.yield _) _ _=>false
 |_=>true
def tV(T:Nat->Option TI)(H:Hp)(op:Op)(ρ:Operand->AV)(g:Option Bool)(a:AT)(K:AV->AT->Prop):Prop:=
 match op with
 |.move x=>K (ρ x) a
 |.assign x=>K (ρ x) a
 |.pick c x y=>match ρ c with|.d (.bool t)=>K (XY t (ρ x) (ρ y)) a|_=>False
 |.load t x=>match T t with|some i=>N3 i H (ρ x) g a K|none=>False
 |.fieldAddr t x f=>match T t with|some i=>Uj i H f (ρ x) a K|none=>False
 |.field t x f=>match T t with|some i=>Vg i f (ρ x) a K|none=>False
 |.indexAddr t x j=>match T t with|some i=>Ug i H (ρ x) (ρ j) g a K|none=>False
 |.index t x j=>match T t with|some i=>Vb i (ρ x) (ρ j) g a K|none=>False
 |.extract x j=>match ρ x with|.tup vs=>(match Bl vs j with|some y=>K y a|none=>False)|_=>False
 |.binOp o t x y _=>match T t with|some i=>Tn i H o (J1 y) (ρ x) (ρ y) g a K|none=>False
 |.unOp o _ x=>W4 o (ρ x) g a K
 |.nilCheck x=>match ρ x with|.ptr k q off=>(match BX H k q with|true=>K (.ptr k q off) a|false=>False)|.iptr cs off=>K (.iptr cs off) a|_=>False
 |.convert s d x=>match T s,T d with|some i,some j=>Wr i j (ρ x) g a K|_,_=>False
 |.makeInterface t x=>match T t with|some i=>(match i.str||i.elm.isSome,ρ x with|true,.agg xs=>(match MP xs with|some ds=>K (.ifc t ds true) a|none=>False)|true,.d x=>K (.ifc t [x] false) a|_,_=>False)|none=>False
 |.typeAssert x _ t ok=>match T t with|some i=>(match i.str||i.elm.isSome,ρ x with|true,.ifc u ds q=>(match Nat.beq u t,wI q ds with|true,some v=>K (cond ok (.tup [v,.d (.bool true)]) v) a|_,_=>False)|_,_=>False)|none=>False
 |.makeFunc fn first b=>match fn with|.yield _=>False|fn=>K (.fn fn (first.toList.map ρ) (b.toList.map ρ)) a
 |.slice t x lo hi h=>match T t with|some i=>Vr i H (ρ x) (lo.map ρ) (hi.map ρ) h.isSome g a K|none=>False
 |.lookup t x y e=>match T t with|some i=>Wy i H (ρ x) (ρ y) e g a K|none=>False
 |.build t parts=>match T t,parts.toList.all (λp=>JB (ρ p.2))with|some i,true=>Vk i (parts.toList.map λp=>(p.1,ρ p.2)) a K|_,_=>False
 |.call c=>match c.callee,c.args.toList,c.argTypes.toList with
  |.builtin .len,[x],[t]=>match T t with|some i=>TB i H (ρ x) g a K|none=>False
  |.builtin .min,[x,y],_=>Ey false (ρ x) (ρ y) (λv=>K v a)
  |.builtin .max,[x,y],_=>Ey true (ρ x) (ρ y) (λv=>K v a)
  |.builtin .max,[x,y,z],_=>HJ true (ρ x) (ρ y) (ρ z) (λv=>K v a)
  |_,_,_=>False
 |_=>False
end Go.Eng
