import Derived.Test.YtchkcemlglpobaaGreatCs02
import Derived.KernelRfl
import Derived.Still
import Derived.IntWalk
import Derived.Test.YtchkcemlglpobaaGreatCs00
namespace Go.Eng
set_option linter.all false
open Go Go.RowKit
def Gu(s:Nat→AV)(ds:List (Option Nat))(i:Nat)(b:Bool):Option Bool:=
 match ds[i]? with
 |some (some d)=>match s d with|.d (.bool t)=>some (t==b)|.tup []=>some false|_=>none
 |_=>none
def Bz(P:Program)(l n:Nat)(B:Base)(c:Code)(Q:Exit→St→Prop)(σ:St):Prop:=
 ∀a w,R l n B σ a w→c.wp P (fun e d w'=>∃b,Q e b∧R l n B b d w') a w
def mc(K:St→Prop)(Q:Exit→St→Prop):Exit→St→Prop
 |.normal,σ=>K σ
 |e,σ=>Q e σ
def QO(id:Nat)(Q:Exit→St→Prop):Exit→St→Prop
 |.exit i,σ=>if i=id then Q .normal σ else Q (.exit i) σ
 |e,σ=>Q e σ
section
variable {P:Program} {l n:Nat} {B:Base} {H H':Hp} {m m':Mu} {S S':Nat→Prop} {w w':World} {s:Nat→AV} {a:Act} {K:St→Prop} {o:Oper} {σ:St} {Q:Exit→St→Prop}
theorem ui{xs ys:List AV}{vs e:Array Value}(h:JS w S H m l xs vs)(k:JS w S H m l ys e):JS w S H m l (xs++ys) (vs++e):=by
 refine⟨by simp[h.1,k.1],fun i x v d c=>?_⟩
 rcases Ys i xs.length with b|a
 ·rw[Yh b]at d
  rw[K9 (by rw[←h.1];exact b)]at c
  exact h.2 i x v d c
 ·rw[Yn a]at d
  rw[Array.getElem?_append_right (by rw[←h.1];exact a),←h.1]at c
  exact k.2 _ x v d c
theorem tC{c:Call}{f:Operand}{g:FuncId}{first b:List AV}(O:o.op=.call c)(M:c.callee=.value f)(N:ev s f=.fn (.func g) first b)
  (h:Zct P g (l+1) (first++c.args.toList.map (ev s)++b) H (LK n o.dst K ⟨s,H⟩)):BJ P l n B o K ⟨s,H⟩:=by
 intro a w L Q
 obtain⟨m,S,J,A,q,y,t⟩:=L.un
 obtain⟨⟨fn,cd,F,G,I⟩,h⟩:=h
 have j:=BQ y f
 rw[N]at j
 generalize U:a.eval f=W at j
 cases j with
 |fn _ _ _ vs C V hy D E=>
  have i:JS w S H m (l+1) (first++c.args.toList.map (ev s)++b) (vs++c.args.map a.eval++C):=
   ui (ui ⟨V,D⟩ (Mi y c.args)) ⟨hy,E⟩
  have u:(execOp a.eval o).run P w=.ok (.enter g (vs++c.args.map a.eval++C)) w:=by
   unfold execOp
   simp only[O,resolve,M,U,Deferred.ofValue,Sem.run_bind,Sem.run_pure,Result.andThen_ok,invoke]
   exact Go.MuLone.run_callFunc_enter F I G _ w
  unfold Oper.wp
  rw[u]
  refine(h m S w _ J i).mono fun e w' ⟨r,v,H',m',S',he,k,p,T,x⟩=>?_
  subst he
  unfold LK B8 at k
  cases z:o.dst with
  |none=>
   rw[z]at k
   exact⟨_,k,R.keep p A q y t x⟩
  |some d=>
   rw[z]at k
   exact⟨_,k.2,R.step p A q y t x k.1 T⟩
theorem JG(h:Bp P l n o K σ):BJ P l n B o K σ:=by
 obtain⟨s,H⟩:=σ
 unfold Bp at h
 split at h
 ·rename_i t a
  split at h
  ·rename_i d z b j;exact ZrN a b j h.1 h.2
  grind
 ·rename_i t x a
  split at h
  ·rename_i d z b j;exact ZDv a b j h.1 h.2
  grind
 ·rename_i t p x a
  split at h
  ·rename_i k g off vs b R G
   obtain⟨r,A,C,D,E,O,Q⟩:=h
   exact Zus a b R G r A C D E O Q
  grind
 ·rename_i t len parts a
  split at h
  ·rename_i d e sz b he
   obtain⟨q,h⟩:=h
   split at h
   ·exact ZhP a b he q h.1 h.2.1 h.2.2
   ·rename_i len
    obtain⟨i,h⟩:=h
    split at h
    ·rename_i z j
     obtain⟨w,h⟩:=h
     split at h
     ·rename_i es u;exact r5 a b he q i j w u h.1 h.2.1 h.2.2
     ·split at h
      ·rename_i cs u;exact sf a b he q i j w u h
      grind
    grind
  grind
 ·rename_i t x y a
  split at h
  ·rename_i d e sz T c U S b he G hy
   obtain⟨r,A,C,D,E,h⟩:=h
   split at h
   ·rename_i z j;exact ZxI a b he G hy r A C D E j h.1 h.2
   grind
  grind
 ·rename_i c a
  split at h
  ·rename_i f F
   split at h
   ·rename_i g first I u;exact tC a F u h
   grind
  ·rename_i F
   split at h
   ·rename_i d x y t J b m v
    obtain⟨r,h⟩:=h
    have L:c.args=#[x,y]:=YX (by simpa using m)
    have M:J=t:=by
     have:c.argTypes=#[t,J]:=YX (by simpa using v)
     grind
    have N:c.argTypes=#[t,t]:=YX (by rw[v,M])
    exact Znw a F L N b h
   grind
  ·rename_i r A;exact Qb h
 ·exact Qb h
theorem s8{ops:Array Oper}(n:Ch l s H m S a w){i:Nat}{b t:Bool}(h:Gu s (ops.toList.map (·.dst)) i b=some t):(yielded ops a.tmps i==some b)=t:=by
 unfold Gu at h
 split at h
 ·rename_i d f
  have e:=n d
  rw[Yx,Ym]at f
  cases j:ops[i]? with
  |none=>rw[j]at f;cases f
  |some o=>
   rw[j]at f
   simp only[YM,Yf]at f
   split at h
   ·rename_i q k
    simp only[Yf]at h
    subst h
    rw[k]at e
    have c:d<a.tmps.size:=by
     rcases Ys d a.tmps.size with c|g
     ·exact c
     ·exfalso
      rw[Yq,YU g]at e
      simp only[Option.getD_none]at e
      generalize p:undef=u at e
      cases e with
      |d _ _ f=>cases f;cases p
    unfold yielded
    rw[j]
    simp only[Yg,f,Yj c]
    rw[Yq,Yj c]at e
    simp only[YZ]at e
    generalize a.tmps[d]=v at e
    cases e with
    |d _ _ f=>cases f;cases q<;>cases b<;>rfl
   ·rename_i k
    simp only[Yf]at h
    subst h
    rw[k]at e
    unfold yielded
    rw[j]
    simp only[Yg,f]
    rcases Ys d a.tmps.size with c|g
    ·simp only[Yj c]
     rw[Yq,Yj c]at e
     simp only[YZ]at e
     generalize a.tmps[d]=v at e
     cases e with
     |tup _ _ _ _=>rfl
    grind
   ·cases h
 ·cases h
theorem ZV{ops:Array Oper}{rest:List Oper}{KK:St→Prop}{QQ:Exit→Act→World→Prop}(m:Region.wanted o (yielded ops a.tmps)=true)(h:BJ P l n B o KK σ)(k:R l n B σ a w)
  (j:∀b i w',KK b→R l n B b i w'→wpList P ops QQ rest i w'):wpList P ops QQ (o::rest) a w:=by
 unfold wpList
 rw[if_pos m]
 refine .inl ?_
 have:=h a w k QQ
 unfold Oper.wp at this⊢
 revert this
 generalize (execOp a.eval o).run P w=r
 have mono:∀(r:Result Next),o.upon P a (fun i w'=>∃b,KK b∧R l n B b i w') QQ r→o.upon P a (wpList P ops QQ rest) QQ r:=by
  intro r h
  cases r with
  |ok x p=>
   cases x<;>first
    |exact h
    |(simp only[Oper.upon]at h⊢;obtain⟨b,d,g⟩:=h;exact j b _ _ d g)
    |skip
   ·rename_i f args
    simp only[Oper.upon]at h⊢
    refine Calls.mono h fun e w2 he=>?_
    cases e with
    |returned v=>obtain⟨b,d,g⟩:=he;exact j b _ _ d g
    |panicked c=>exact he
    |outgrown=>exact he
   ·rename_i row args
    simp only[Oper.upon]at h⊢
    exact Rows.mono h fun v w2 ⟨b,d,g⟩=>j b _ _ d g
  |halt x p=>cases x<;>exact h
 exact mono r
theorem R.undef{d:Nat}(f:R l n B σ a w)(j:d<n):R l n B ⟨upd σ.s d (.tup []),σ.H⟩ (a.put (some d) undef) w:=by
 obtain⟨s,H⟩:=σ
 obtain⟨m,S,e,k,b,g,c⟩:=f.un
 exact R.step e k b g c (Ext.refl _ _ _ _ _) j (.tup [] #[] rfl (fun i x v h=>by simp at h))
theorem FX{c:Code}{b:Exit→St→Prop}(h:Bz P l n B c Q σ)(i:∀e σ,Q e σ→b e σ):Bz P l n B c b σ:=
 fun a w g=>wp_mono (h a w g) fun _ _ _ ⟨j,d,f⟩=>⟨j,i _ _ d,f⟩
theorem ZvS(h:Q .normal σ):Bz P l n B .skip Q σ:=fun _ _ a=>wp_skip ⟨σ,h,a⟩
theorem yR(h:Q .ret σ):Bz P l n B .ret Q σ:=fun _ _ a=>wp_ret ⟨σ,h,a⟩
theorem ZvV{id:Nat}(h:Q (.exit id) σ):Bz P l n B (.exit id) Q σ:=fun _ _ a=>wp_exit ⟨σ,h,a⟩
theorem z1{x y:Code}(h:∀K:St→Prop,(∀b,Bz P l n B y Q b→K b)→Bz P l n B x (mc K Q) σ):Bz P l n B (.seq x y) Q σ:=by
 intro a w i
 refine wp_seq (wp_mono (h _ (fun _ h=>h) a w i) fun e g w' ⟨b,d,f⟩=>?_)
 cases e with
 |normal=>exact d g w' f
 |exit id=>exact⟨b,d,f⟩
 |goto id=>exact⟨b,d,f⟩
 |ret=>exact⟨b,d,f⟩
 |panic c=>exact⟨b,d,f⟩
 |outgrown=>exact⟨b,d,f⟩
theorem ZFw(b:R l n B σ a w){c:Operand}{t:Bool}(h:ev σ.s c=.d (.bool t)):a.eval c=.bool t:=by
 obtain⟨s,H⟩:=σ
 obtain⟨m,S,j,k,g,e,i⟩:=b.un
 have:=BQ e c
 rw[show ev s c=.d (.bool t)from h]at this
 generalize a.eval c=v at this
 cases this with
 |d _ _ f=>cases f;rfl
theorem Me{c:Operand}{x y:Code}{t:Bool}(g:ev σ.s c=.d (.bool t))(d:t=true→Bz P l n B x Q σ)(f:t=false→Bz P l n B y Q σ):Bz P l n B (.cond c x y) Q σ:=
 fun a w b=>wp_cond_split (ZFw b g) (fun e=>d e a w b) (fun e=>f e a w b)
theorem tk{id:Nat}{c:Code}(h:Bz P l n B c (QO id Q) σ):Bz P l n B (.block id c) Q σ:=by
 intro a w g
 refine wp_block (wp_mono (h a w g) fun e j w' ⟨f,b,d⟩=>?_)
 cases e with
 |exit i=>
  unfold QO at b
  unfold Exit.inBlock
  grind
 |normal=>exact⟨f,b,d⟩
 |goto id=>exact⟨f,b,d⟩
 |ret=>exact⟨f,b,d⟩
 |panic c=>exact⟨f,b,d⟩
 |outgrown=>exact⟨f,b,d⟩
end
end Go.Eng
namespace Go.Eng
set_option linter.all false
open Go Go.RowKit
def args(xs:List AV):Nat→AV:=fun i=>(xs[i]?).getD .top
def CC(l:Nat)(H:Hp):Hp:=fun k=>if k.1≤l then H k else⟨0,false,0,0,[]⟩
def Gv(l:Nat)(H' H:Hp):Hp:=fun k=>if k.1≤l then H' k else H k
def DK(P:Program)(σ:St):List ResultVar→(List AV→Prop)→Prop
 |[],K=>K []
 |.tmp t::rest,K=>DK P σ rest (fun xs=>K (σ.s t::xs))
 |.cell a t::rest,K=>DJ P σ.H t (σ.s a) (fun x=>DK P σ rest (fun xs=>K (x::xs)))
def CW:List AV→AV
 |[x]=>x
 |xs=>.tup xs
inductive Fz (H:Hp) (l:Nat):AV→AV→Prop
 |keep (x:AV) (h:x.low l=true):Fz H l x x
 |e0:Fz H l .e0 (.d (.list []))
 |mp (k:Ac) (a:Bool) (es:List (List D)) (hk:k.1=l+1) (hl:(H k).live=true) (he:(H k).e=.m a es):Fz H l (.mp k (H k).g) (.d (.map a es))
 |ref (k:Ac) (off n:Nat) (es:List (List D)) (hk:k.1=l+1) (hl:(H k).live=true) (hn:es.length=n) (hz:(H k).sz≠0) (he:∀e,e∈es→e.length=(H k).sz)
   (hlen:(off+n)*(H k).sz≤(H k).cells.length)
   (h:∀(i j:Nat) (e:List D) (d:D) (x:AV),es[i]?=some e→e[j]?=some d→(H k).cells[(off+i)*(H k).sz+j]?=some x→Fz H l x (.d d)):
   Fz H l (.ref k (H k).g off n) (.d (.list es))
 |agg (xs ys:List AV) (hl:xs.length=ys.length) (h:∀(i:Nat) (x y:AV),xs[i]?=some x→ys[i]?=some y→Fz H l x y):Fz H l (.agg xs) (.agg ys)
 |tup (xs ys:List AV) (hl:xs.length=ys.length) (h:∀(i:Nat) (x y:AV),xs[i]?=some x→ys[i]?=some y→Fz H l x y):Fz H l (.tup xs) (.tup ys)
def rc(P:Program)(fn:Func)(l:Nat)(H:Hp)(a:AV→Hp→Prop):Exit→St→Prop:=fun e σ=>
 (e=.normal∨e=.ret)∧DK P σ fn.results.toList (fun xs=>∃y,Fz σ.H l (CW xs) y∧a y (Gv l σ.H H))
section
variable {P:Program} {l n:Nat} {B:Base} {H H':Hp} {m m':Mu} {S S':Nat→Prop} {w w':World} {s:Nat→AV} {a:Act} {K:St→Prop} {o:Oper} {σ:St} {Q:Exit→St→Prop}
theorem Zoh{t:TypeId}{v b:Value}(h:(Instr.loadAt t v).run P w=.ok b w):(do loadVar t (←asAddr v):Sem Value).run P w=.ok b w:=by
 cases v<;>try (simp[Instr.loadAt,Instr.sureAddr]at h;done)
 rename_i p
 cases p with
 |none=>simp[Instr.loadAt,Instr.sureAddr]at h
 |some a=>simpa[Instr.loadAt,Instr.sureAddr,asAddr]using h
def Lg(tmps:Array Value):ResultVar→Sem Value
 |.tmp t=>pure (tmps.getD t undef)
 |.cell p t=>do loadVar t (←asAddr (tmps.getD p undef))
theorem Z0(k:Ok (l+1) H m S w)(b:Ch (l+1) s H m S a w):∀(rs:List ResultVar) (K:List AV→Prop),DK P ⟨s,H⟩ rs K→
  ∃(vs:List Value) (xs:List AV),(rs.mapM (Lg a.tmps)).run P w=.ok vs w∧xs.length=vs.length∧
   (∀(i:Nat) (x:AV) (v:Value),xs[i]?=some x→vs[i]?=some v→RepA w S H m (l+1) x v)∧K xs
 |[],K,h=>⟨[],[],by simp,rfl,fun i x v h=>by simp at h,h⟩
 |.tmp t::rest,K,h=>by
  obtain⟨vs,xs,f,g,n,j⟩:=Z0 k b rest _ h
  refine⟨a.tmps.getD t undef::vs,s t::xs,by simp only[NB,Lg,Sem.run_bind,Sem.run_pure,Result.andThen_ok,f],by simp[g],fun i x v d c=>?_,j⟩
  cases i with
  |zero=>simp at d c;subst d;subst c;simpa using b t
  |succ i=>exact n i x v (by simpa using d) (by simpa using c)
 |.cell p t::rest,K,h=>by
  obtain⟨v0,r,o,u,q⟩:=sn h (b p) k
  obtain⟨vs,xs,f,g,n,j⟩:=Z0 k b rest _ q
  refine⟨v0::vs,r::xs,?_,by simp[g],fun i x v d c=>?_,j⟩
  ·have:=Zoh o
   have e:(Lg a.tmps (.cell p t)).run P w=.ok v0 w:=this
   simp only[NB,Sem.run_bind,e,Sem.run_pure,Result.andThen_ok,f]
  grind
def Kj(l:Nat)(H:Hp)(m:Mu)(S:Nat→Prop):Nat→Prop:=fun b=>S b∨∃k:Ac,k.1=l+1∧(H k).live=true∧((m k).cap≠0∨(H k).e.isO=true)∧b=(m k).b
theorem Ok.fin(h:Ok (l+1) H m S w):Ok l H m (Kj l H m S) w∧Ext l H m S w H m (Kj l H m S) w:=by
 have n:Ext (l+1) H m S w H m (Kj l H m S) w:=⟨fun _ h=>.inl h,fun _ _=>rfl,fun _ _=>Ye _,fun _ _ _ h=>⟨h,rfl,rfl⟩,rfl,rfl,rfl,Ye _⟩
 refine⟨⟨fun b c=>?_,fun q u=>h.empty q (by omega),fun q u hl g=>?_,fun q A u z=>h.inj q A (by omega) (by omega),fun q u hl g=>?_,
  ⟨fun k p j=>(h.mp.o k (by omega) j).mono (fun _ h=>.inl h) (fun _ _=>rfl) (fun _=>rfl),fun k p j he=>?_,fun k k' p s=>h.mp.i k k' (by omega) (by omega)⟩⟩,n.mono (by omega)⟩
 ·rcases c with c|⟨k,p,hl,g,rfl⟩
  ·exact h.sub b c
  ·rcases g with g|g
   ·obtain⟨C,c,_⟩:=h.blk k (by omega) hl g
    grind
   ·obtain⟨o,c,_⟩:=(h.mp.o k (by omega) hl).at g
    grind
 ·rintro(hs|⟨k,p,f,a,e⟩)
  ·exact h.fresh q (by omega) hl g hs
  ·rcases a with a|a
   ·have:=h.inj q k (by omega) (by omega) hl f g a e
    grind
   ·obtain⟨o,c,r⟩:=(h.mp.o k (by omega) f).at a
    obtain⟨C,d,_⟩:=h.blk q (by omega) hl g
    rw[e,c]at d;cases d;cases r
 ·obtain⟨C,c,hs,t,y⟩:=h.blk q (by omega) hl g
  exact⟨C,c,hs,t,fun i x v hi j=>⟨(y i x v hi j).1,(y i x v hi j).2.ext n (by omega)⟩⟩
 ·refine⟨(h.mp.c k (by omega) j he).1,?_⟩
  rintro(hs|⟨k',s,f,a,e⟩)
  ·exact(h.mp.c k (by omega) j he).2 hs
  ·rcases a with a|a
   ·obtain⟨o,c,r⟩:=(h.mp.o k (by omega) j).at he
    obtain⟨C,d,_⟩:=h.blk k' (by omega) f a
    rw[←e,c]at d;cases d;cases r
   ·have:=h.mp.i k k' (by omega) (by omega) j f he a e
    grind
theorem Fz.sound{x y:AV}(h:Fz H l x y)(Q:Ok (l+1) H m S w):∀{v:Value},RepA w S H m (l+1) x v→RepA w (Kj l H m S) H m l y v:=by
 have t:Ext (l+1) H m S w H m (Kj l H m S) w:=⟨fun _ h=>.inl h,fun _ _=>rfl,fun _ _=>Ye _,fun _ _ _ h=>⟨h,rfl,rfl⟩,rfl,rfl,rfl,Ye _⟩
 induction h with
 |keep x h=>exact fun b=>(b.ext t (Ye _)).low h
 |e0=>
  intro v b
  cases b with
  |e0 N=>exact(RepA.e0 N).e0_d
 |mp k a es I hl he=>
  intro v b
  generalize F:(H k).g=g at b
  cases b with
  |mpD _ _ _ q G s p=>rw[s F.symm]at hl;cases hl
  |mpL _ q r=>
   have U:=Q.mp.o k (by omega) hl
   rw[he]at U
   obtain⟨ents,A,p,O⟩:=U
   exact .d _ _ (.ofM (.inr ⟨k,I,hl,.inr (by rw[he];rfl),rfl⟩) p (O.mono (fun _ h=>.inl h) (fun _ _=>rfl)))
 |ref k off n es I hl J hz he o h u=>
  intro v b
  generalize F:(H k).g=g at b
  cases b with
  |refD _ _ _ _ _ q G s p=>rw[s F.symm]at hl;cases hl
  |refL _ _ _ N q r T R=>
   by_cases K:n=0
   ·subst K
    have:es=[]:=YI J
    subst this
    cases N with
    |none=>
     have e:(m k).cap-off=0:=by
      rcases Ys off (m k).cap with h|h
      ·have:=R h;cases this
      ·omega
     rw[e]
     exact .d _ _ .nil
    |some ad=>exact .d _ _ (.list [] ad 0 _ (fun _ _=>.bool true) (fun h=>absurd rfl h) (EG _) (fun _ h=>by cases h) (fun i j e x h=>by simp at h) (fun i j e x h=>by simp at h))
   ·have L:=R (by omega)
    subst L
    obtain⟨E,C,p,O,Z,P⟩:=Q.row (k:=k) (by omega) hl (by
     intro e
     rw[e,YH]at o
     have:=NO (show 0<n by omega) (show 0<(H k).sz by omega)
     simp at o
     omega)
    have idx:∀(i j:Nat) (e:List D) (d:D),es[i]?=some e→e[j]?=some d→(off+i)*(H k).sz+j<(H k).cells.length:=by
     intro i j e d hi f
     have W:i<n:=by
      rw[←J]
      rcases Ys i es.length with h|h
      ·exact h
      ·rw[YE h]at hi;cases hi
     have X:j<(H k).sz:=by
      rw[←he e (Yi hi)]
      rcases Ys j e.length with h|h
      ·exact h
      ·rw[YE h]at f;cases f
     have:(off+i+1)*(H k).sz≤(off+n)*(H k).sz:=YG _ (by omega)
     rw[YH (off+i)]at this
     omega
    have:=RepD.list (w:=w) (S:=Kj l H m S) es ⟨(m k).b,(m k).o+off*(H k).sz,none⟩ (H k).sz ((m k).cap-off) (fun i j=>(C[(m k).o+((off+i)*(H k).sz+j)]?).getD undef)
     (fun _=>.inr ⟨k,I,hl,.inl E,rfl⟩) (by omega) he
     (fun i j e d hi f=>by
      obtain⟨v,z,_,_⟩:=P _ _ (Yb (idx i j e d hi f))
      rw[Addr.add_lit,Fi p,z]
      rw[show(m k).o+off*(H k).sz+(i*(H k).sz+j)=(m k).o+((off+i)*(H k).sz+j)from by rw[YH];omega,z]
      rfl)
     (fun i j e d hi f=>by
      obtain⟨v,z,Y,V⟩:=P _ _ (Yb (idx i j e d hi f))
      rw[z]
      have:=u i j e d _ hi f (Yb (idx i j e d hi f)) V
      cases this with
      |d _ _ s=>exact s)
    rw[J]at this
    exact .d _ _ this
 |agg xs ys hl h u=>
  intro v b
  cases b with
  |agg _ vs r p B=>
   refine .agg _ _ (by omega) p (fun i y v hy M=>?_)
   have c:i<xs.length:=by
    rw[hl]
    rcases Ys i ys.length with h|h
    ·exact h
    ·rw[YE h]at hy;cases hy
   exact u i _ y (Yb c) hy (B i _ v (Yb c) M)
 |tup xs ys hl h u=>
  intro v b
  cases b with
  |tup _ vs r B=>
   refine .tup _ _ (by omega) (fun i y v hy M=>?_)
   have c:i<xs.length:=by
    rw[hl]
    rcases Ys i ys.length with h|h
    ·exact h
    ·rw[YE h]at hy;cases hy
   exact u i _ y (Yb c) hy (B i _ v (Yb c) M)
theorem ZiY{fn:Func}{KK:List AV→Prop}(j:Ok (l+1) H m S w)(k:Ch (l+1) s H m S a w)(h:DK P ⟨s,H⟩ fn.results.toList KK):
  ∃v xs,(results fn a.tmps).run P w=.ok v w∧RepA w S H m (l+1) (CW xs) v∧KK xs:=by
 obtain⟨vs,xs,d,c,b,g⟩:=Z0 j k _ _ h
 have o:∀f:ResultVar→Sem Value,(∀r,f r=Lg a.tmps r)→(fn.results.mapM f).run P w=.ok vs.toArray w:=by
  intro f n
  have:f=Lg a.tmps:=funext n
  subst this
  rw[jH]
  simp[d]
 refine⟨if h:vs.toArray.size=1 then vs.toArray[0]else .tuple vs.toArray,xs,?_,?_,g⟩
 ·unfold results
  simp only[Sem.run_bind]
  rw[o _ (fun r=>by cases r<;>rfl)]
  simp
 ·match xs,vs,c,b with
  |[x],[v],_,b=>exact b 0 x v rfl rfl
  |[],[],_,_=>exact .tup _ _ rfl (fun i x v h=>by simp[CW]at h)
  |x::x'::xs,v::t::vs,c,b=>
   have e:¬((v::t::vs).toArray.size=1):=by simp
   rw[dif_neg e]
   exact .tup _ _ (by simpa using c) (fun i x v q p=>b i x v q (by simpa using p))
theorem Zu5{P:Program}{f:FuncId}{fn:Func}{c:Code}{n l:Nat}{xs:List AV}{H:Hp}{s:AV→Hp→Prop}(hf:P.funcs[f]?=some fn)(hb:fn.body=some c)(G:(fn.name== "runtime.NumGoroutine")=false)
  (hn:fn.ntmps=n) (hx:xs.length≤n) (h:∀B:Base,Bz P l n B c (rc P fn l H s) ⟨args xs,CC l H⟩):Zct P f l xs H s:=by
 refine⟨⟨fn,c,hf,hb,G⟩,fun m S w vs K j=>?_⟩
 have a:∀k:Ac,k.1≤l→CC l H k=H k:=fun k g=>by unfold CC;rw[if_pos g]
 have hdead:∀k:Ac,¬k.1≤l→(CC l H k).live=false:=fun k g=>by unfold CC;rw[if_neg g]
 have u:∀k:Ac,(CC l H k).live=true→k.1≤l:=fun k hl=>by
  grind
 have X:Ok (l+1) (CC l H) m S w:=by
  refine⟨K.sub,fun q d hl o=>?_,fun q d hl o=>?_,fun q M d I hl t o J heq=>?_,fun q d hl o=>?_,
   K.mp.stepL (fun q _ hl _=>by have:=u q hl;rw[a q this]at hl⊢;exact⟨this,hl,rfl,rfl⟩) (fun _ h=>h) (fun _ h=>.inl h) (fun _ _=>rfl) (fun _ _ h _=>h)⟩
  ·have:=u q hl;rw[a q this]at hl⊢;exact K.empty q this hl o
  ·have:=u q hl;rw[a q this]at hl;exact K.fresh q this hl o
  ·have e:=u q hl
   have e':=u M t
   rw[a q e]at hl;rw[a M e']at t
   exact K.inj q M e e' hl t o J heq
  ·have e:=u q hl
   rw[a q e]at hl⊢
   obtain⟨C,U,V,W,T⟩:=K.blk q e hl o
   exact⟨C,U,V,W,fun i x v hi O=>⟨(T i x v hi O).1,(T i x v hi O).2.agree (fun k g=>a k (by omega)) (fun _ _=>rfl)⟩⟩
 have hE:Ext l H m S w (CC l H) m S w:=⟨fun _ h=>h,fun _ _=>rfl,fun k g=>by rw[a k g];exact Ye _,fun k g _ hl=>by rw[a k g]at hl⊢;exact⟨hl,rfl,rfl⟩,rfl,rfl,rfl,Ye _⟩
 have hR:R l n ⟨H,m,S,w⟩ ⟨args xs,CC l H⟩ {tmps:=vs++Array.replicate (fn.ntmps-vs.size) undef,defers:=[] } w:=by
  refine⟨m,S,X,by simp[hn];rw[←j.1];omega,rfl,fun i=>?_,hE⟩
  simp only[args]
  cases hi:xs[i]? with
  |none=>exact .top _
  |some x=>
   have hlt:i<xs.length:=by
    grind
   have D:i<vs.size:=by rw[←j.1];exact hlt
   rw[Yq,K9 D,Yj D]
   exact((j.2 i x _ hi (Yj D)).agree (fun k g=>a k g) (fun _ _=>rfl)).lvl (Nat.le_succ l)
 refine calls_of_wp hf hb (wp_mono (h ⟨H,m,S,w⟩ _ w hR) fun e a' w' ⟨σ',d,Y⟩=>?_)
 obtain⟨s',H'⟩:=σ'
 obtain⟨m',S',A,hn',hd',Z,N⟩:=Y.un
 have done:DK P ⟨s',H'⟩ fn.results.toList (fun xs=>∃y,Fz H' l (CW xs) y∧s y (Gv l H' H))→a'.defers=[]∧∃v,(results fn a'.tmps).run P w'=.ok v w'∧
   (∃r Q p E z,Ending.returned v=.returned Q∧s r p∧Ok l p E z w'∧RepA w' z p E l r Q∧Ext l H m S w p E z w'):=by
  intro hr
  obtain⟨v,xs,U,V,y,W,T⟩:=ZiY A Z hr
  obtain⟨L,k2⟩:=A.fin
  have b:∀k:Ac,k.1≤l→Gv l H' H k=H' k:=fun k g=>by unfold Gv;rw[if_pos g]
  refine⟨hd',v,U,y,v,Gv l H' H,m',_,rfl,T,?_,(W.sound A V).agree b (fun _ _=>rfl),?_⟩
  ·refine⟨L.sub,fun q d hl o=>?_,fun q d hl o=>?_,fun q M d I hl t o J heq=>?_,fun q d hl o=>?_,
    L.mp.step (Ye _) (fun q d hl _=>by rw[b q d]at hl⊢;exact⟨hl,rfl,rfl⟩) (fun _ h=>h) (fun _ h=>.inl h) (fun _ _=>rfl) (fun _ _ h _=>h)⟩
   ·rw[b q d]at hl⊢;exact L.empty q d hl o
   ·rw[b q d]at hl;exact L.fresh q d hl o
   ·rw[b q d]at hl;rw[b M I]at t;exact L.inj q M d I hl t o J heq
   ·rw[b q d]at hl⊢
    obtain⟨C,g1,g2,g3,g4⟩:=L.blk q d hl o
    exact⟨C,g1,g2,g3,fun i x v hi O=>⟨(g4 i x v hi O).1,(g4 i x v hi O).2.agree (fun k g=>b k (by omega)) (fun _ _=>rfl)⟩⟩
  ·have F:=Ext.trans (show Ext l H m S w H' m' S' w' from N) k2
   exact⟨F.s,F.blk,fun k g=>by rw[b k g];exact F.g k g,fun k g hg hl=>by rw[b k g]at hg hl⊢;exact F.live k g hg hl,F.os,F.tape,F.output,F.size⟩
 rcases d.1 with rfl|rfl
 ·exact done d.2
 ·exact done d.2
end
section
variable {P:Program} {l n:Nat} {ds:List (Option Nat)} {ops rest:List Oper} {K:St→Prop} {s:Nat→AV} {H:Hp} {d:Option Nat} {op:Op} {ty:TypeId} {ps:String} {af:Array Edge} {g:Option (Nat×Bool)}
variable {x y:Operand} {t:TypeId}
theorem dx{l:Nat}{H:Hp}{k:Ac}(h:k.1≤l):CC l H k=H k:=by unfold CC;rw[if_pos h]
theorem ZFs{l:Nat}{H:Hp}{i:Nat}:CC l H (l+1,i)=⟨0,false,0,0,[]⟩:=by unfold CC;rw[if_neg (by simp)]
end
def BF(o:Oper):Bool:=o.dst.isSome&&match o.op with
 |.call c=>match c.callee with
  |.value _=>true
  |.builtin .len|.builtin .min|.builtin .max=>true
  |_=>false
 |.binOp _ _ _ y _=>!GU y
 |.alloc _|.box _ _|.store _ _ _|.buildSlice _ _ _|.makeSlice _ _ _|.makeMap _ _|.range _ _|.next _ _|.entry _=>false
 |_=>true
def Xu(o:Oper):Bool:=match o.op with
 |.buildSlice _ (_+1) _=>true
 |_=>false
def Cn(o:Oper):Bool:=BF o||(o.dst.isSome&&Xu o)
def qY(P:Program)(t:TypeId)(len:Nat)(ps:List (Nat×AV))(v:AV):Prop:=
 ∃e sz z es,elm P t=some (e,sz)∧sz≠0∧(len+1)*sz≤16777216∧zer P e=some z∧z.length=sz∧Eu sz 0 ps=some es∧es.length=len+1∧v=.d (.list es)
def qV(P:Program)(l:Nat)(H:Hp)(o:Oper)(ρ:Operand→AV)(v:AV):Prop:=
 match o.op with
 |.buildSlice t (len+1) parts=>qY P t len (parts.toList.map fun p=>(p.1,ρ p.2)) v
 |.call c=>match c.callee with
  |.value f=>match ρ f with
   |.fn (.func g) first a=>Zct P g (l+1) (first++c.args.toList.map ρ++a) H (fun y b=>y=v∧b=H)
   |_=>False
  |_=>A4 P H o.op ρ (fun y=>y=v)
 |_=>A4 P H o.op ρ (fun y=>y=v)
def EB(P:Program)(l n:Nat)(o:Oper)(K:St→Prop)(σ:St):Prop:=
 match o.op with
 |.buildSlice t (len+1) parts=>∃v,qY P t len (parts.toList.map fun p=>(p.1,ev σ.s p.2)) v∧B8 n o.dst K σ v
 |.call c=>match c.callee with
  |.value f=>match ev σ.s f with
   |.fn (.func g) first a=>∃r,Zct P g (l+1) (first++c.args.toList.map (ev σ.s)++a) σ.H (fun y b=>y=r∧b=σ.H)∧B8 n o.dst K σ r
   |_=>False
  |_=>Bp P l n o K σ
 |_=>Bp P l n o K σ
def Da(P:Program)(l n:Nat)(ds:List (Option Nat)):List Oper→(St→Prop)→St→Prop
 |[],K,σ=>K σ
 |o::rest,K,σ=>match o.guard with
  |none=>EB P l n o (Da P l n ds rest K) σ
  |some (i,b)=>match Gu σ.s ds i b with
   |some t=>(t=true→EB P l n o (Da P l n ds rest K) σ)∧(t=false→match o.dst with|some d=>d<n∧Da P l n ds rest K ⟨upd σ.s d (.tup []),σ.H⟩|none=>False)
   |none=>False
section
variable {P:Program} {l n:Nat} {B:Base} {H:Hp} {K K':AV→Prop} {t:TypeId} {x y:AV} {ρ ρ':Operand→AV}
theorem s5{op:BinOp}{k:IntKind}{a b:Int}(h:∀v,K v→K' v)(c:EU op k a b K):EU op k a b K':=by
 cases op<;>simp only[EU]at c⊢<;>first|exact h _ c|exact⟨c.1,h _ c.2⟩|exact c
theorem te{op:BinOp}{a b:ByteArray}(h:∀v,K v→K' v)(c:EY op a b K):EY op a b K':=by
 cases op<;>simp only[EY]at c⊢<;>first|exact h _ c|exact⟨c.1,h _ c.2⟩|exact c
theorem ZvU{op:BinOp}{k:IntKind}{a b:Int}(c:EU op k a b K):∃v,EU op k a b (fun y=>y=v)∧K v:=by
 cases op<;>simp only[EU]at c⊢<;>first|exact⟨_,rfl,c⟩|exact⟨_,⟨c.1,rfl⟩,c.2⟩|exact c.elim
theorem ZxL{op:BinOp}{a b:ByteArray}(c:EY op a b K):∃v,EY op a b (fun y=>y=v)∧K v:=by
 cases op<;>simp only[EY]at c⊢<;>first|exact⟨_,rfl,c⟩|exact⟨_,⟨c.1,rfl⟩,c.2⟩|exact c.elim
theorem ZqR(h:DJ P H t x K):∃v,DJ P H t x (fun y=>y=v)∧K v:=by
 unfold DJ at h⊢
 split at h
 ·grind
 ·grind
 grind
theorem ZhI{i:Nat}(h:DX P H t i x K):∃v,DX P H t i x (fun y=>y=v)∧K v:=by
 unfold DX at h⊢
 grind
theorem ZnO{i:Nat}(h:DZ P t i x K):∃v,DZ P t i x (fun y=>y=v)∧K v:=by
 unfold DZ at h⊢
 split at h
 ·split at h
  ·grind
  grind
 grind
theorem ZhM(h:Dy P H t x y K):∃v,Dy P H t x y (fun y=>y=v)∧K v:=by
 unfold Dy at h⊢
 grind
theorem ZnI(h:Ei P t x y K):∃v,Ei P t x y (fun y=>y=v)∧K v:=by
 unfold Ei at h⊢
 grind
theorem Zvj{op:BinOp}{xs ys:List AV}(h:Fv P op t xs ys K):∃v,Fv P op t xs ys (fun y=>y=v)∧K v:=by
 unfold Fv at h⊢
 split at h
 ·grind
 grind
theorem Zvu{op:BinOp}(h:Cd P H op t false x y K):∃v,Cd P H op t false x y (fun y=>y=v)∧K v:=by
 unfold Cd at h⊢
 split at h
 ·obtain⟨v,a,b⟩:=ZvU h.2;exact⟨v,⟨h.1,a⟩,b⟩
 ·exact ZxL h
 ·grind
 ·exact Zvj h
 ·cases h.1
 grind
theorem ZEc{op:UnOp}(h:DT op x K):∃v,DT op x (fun y=>y=v)∧K v:=by
 unfold DT at h⊢
 grind
theorem Zs0{u:TypeId}(h:D1 P t u x K):∃v,D1 P t u x (fun y=>y=v)∧K v:=by
 unfold D1 at h⊢
 grind
theorem ZnC{lo hi:Option AV}{a:Bool}(h:DD P H t x lo hi a K):∃v,DD P H t x lo hi a (fun y=>y=v)∧K v:=by
 unfold DD at h⊢
 grind
theorem Zxk(h:C8 P H t x K):∃v,C8 P H t x (fun y=>y=v)∧K v:=by
 unfold C8 at h⊢
 grind
theorem ZnK{ps:List (Nat×AV)}(h:Ek P t ps K):∃v,Ek P t ps (fun y=>y=v)∧K v:=by
 unfold Ek at h⊢
 grind
theorem yH{op:Op}(g:∀o t x y u,op=.binOp o t x y u→GU y=false)(h:A4 P H op ρ K):∃v,A4 P H op ρ (fun y=>y=v)∧K v:=by
 cases op<;>simp only[A4]at h⊢<;>try exact h.elim
 case move x=>exact⟨_,rfl,h⟩
 case assign x=>exact⟨_,rfl,h⟩
 case pick c a b=>
  split at h
  ·grind
  ·grind
 case load=>exact ZqR h
 case fieldAddr=>exact ZhI h
 case field=>exact ZnO h
 case indexAddr=>exact ZhM h
 case index=>exact ZnI h
 case extract=>
  split at h
  ·grind
  ·grind
 case binOp o t x y u=>
  rw[g _ _ _ _ _ rfl]at h⊢
  exact Zvu h
 case unOp=>exact ZEc h
 case convert=>exact Zs0 h
 case nilCheck=>
  unfold Hs at h⊢
  split at h
  ·grind
  ·grind
  ·grind
 case makeFunc=>exact⟨_,rfl,h⟩
 case makeInterface=>
  obtain⟨d,h⟩:=h
  repeat' split at h
  all_goals first|exact h.elim|exact⟨_,⟨d,rfl⟩,h⟩
 case typeAssert=>
  obtain⟨d,h⟩:=h
  repeat' split at h
  all_goals first|exact h.elim|exact⟨_,⟨d,h.1,rfl⟩,h.2⟩
 case slice=>exact ZnC h
 case build=>exact ZnK h
 case lookup=>exact Zo7 h
 case call c=>
  split at h
  ·obtain⟨v,e,f⟩:=Zxk h.2;exact⟨v,⟨h.1,e⟩,f⟩
  ·split at h
   ·unfold Dw at h⊢
    grind
   ·unfold Fy at h⊢
    grind
   grind
  ·grind
theorem tz{op:Op}(e:∀o t x y u,op=.binOp o t x y u→GU y=false){v:AV}(d:K v)(h:A4 P H op ρ (fun y=>y=v)):A4 P H op ρ K:=by
 have:(fun y=>y=v)=(fun y=>y=v∧K v):=by funext y;simp[d]
 rw[this]at h
 clear this d
 cases op<;>simp only[A4]at h⊢<;>try exact h.elim
 case move x=>exact h.1▸h.2
 case assign x=>exact h.1▸h.2
 case pick c a b=>
  split at h
  ·grind
  ·grind
 case load t x=>
  unfold DJ at h⊢
  split at h
  ·grind
  ·grind
  ·grind
 case fieldAddr=>
  unfold DX at h⊢
  split at h
  ·grind
  ·grind
  ·grind
 case field=>
  unfold DZ at h⊢
  split at h
  ·split at h
   ·grind
   grind
  ·grind
 case indexAddr=>
  unfold Dy at h⊢
  split at h
  ·grind
  ·grind
  ·grind
 case index=>
  unfold Ei at h⊢
  split at h
  ·grind
  ·grind
 case makeInterface=>
  refine⟨h.1,?_⟩
  replace h:=h.2
  repeat' split at h
  all_goals first|exact h.elim|exact h.1▸h.2
 case typeAssert=>
  refine⟨h.1,?_⟩
  replace h:=h.2
  repeat' split at h
  all_goals first|exact h.elim|exact⟨h.1,h.2.1▸h.2.2⟩
 case extract=>
  split at h
  ·grind
  ·grind
 case binOp o t x y u=>
  rw[e _ _ _ _ _ rfl]at h⊢
  unfold Cd at h⊢
  split at h
  ·exact⟨h.1,s5 (fun y (hy:y=v∧K v)=>hy.1▸hy.2) h.2⟩
  ·exact te (fun y (hy:y=v∧K v)=>hy.1▸hy.2) h
  ·grind
  ·unfold Fv at h⊢
   split at h
   ·split at h
    ·grind
    grind
   grind
  ·cases h.1
  ·grind
 case unOp=>
  unfold DT at h⊢
  split at h<;>grind
 case nilCheck=>
  unfold Hs at h⊢
  split at h
  ·grind
  ·grind
  ·grind
 case convert=>
  unfold D1 at h⊢
  split at h
  ·grind
  ·grind
  ·grind
 case makeFunc=>exact h.1▸h.2
 case slice=>
  unfold DD at h⊢
  split at h
  ·grind
  ·grind
  ·grind
  ·grind
 case build=>
  unfold Ek at h⊢
  split at h
  ·grind
  ·grind
 case lookup=>exact td (fun y (hy:y=v∧K v)=>hy.1▸hy.2) h
 case call c=>
  split at h
  ·refine⟨h.1,?_⟩
   replace h:=h.2
   unfold C8 at h⊢
   grind
  ·split at h
   ·unfold Dw at h⊢
    grind
   ·unfold Fy at h⊢
    grind
   grind
  ·grind
theorem aP{o:Oper}(h:Cn o=true)(a:∀t len ps,o.op=.buildSlice t (len+1) ps→False):BF o=true:=by
 unfold Cn at h
 rw[Bool.or_eq_true]at h
 rcases h with h|h
 ·exact h
 ·exfalso
  unfold Xu at h
  split at h
  ·rename_i e;exact a _ _ _ e
  ·simp at h
theorem au{o:Oper}(a:Cn o=true):∀b t x y u,o.op=.binOp b t x y u→GU y=false:=by
 intro b t x y u h
 simp only[Cn,Xu,BF,h,Bool.and_false,Bool.or_false,Bool.and_eq_true,Bool.not_eq_true']at a
 exact a.2
theorem tL{o:Oper}{v:AV}(h:∀x∈o.op.operands,ρ x=ρ' x)(a:qV P l H o ρ v):qV P l H o ρ' v:=by
 obtain⟨q,op,type,pos,after,guard⟩:=o
 have d:∀i:Array Operand,(∀x∈i,ρ x=ρ' x)→i.toList.map ρ=i.toList.map ρ':=fun i k=>YR fun x e=>k x (by simpa using e)
 cases op<;>simp only[Op.operands]at h<;>simp only[qV,A4]at a⊢<;>try exact a
 case call c=>
  have k:c.args.toList.map ρ=c.args.toList.map ρ':=d _ fun x e=>h x (by simp[Call.operands,e])
  cases j:c.callee with
  |value f=>
   have z:ρ f=ρ' f:=h f (by simp[Call.operands,j])
   grind
  |invoke r m=>simp only[j]at a
  |builtin b=>
   simp only[j]at a⊢
   split at a
   ·rename_i x t y s w
    rw[←h x (by simp[Call.operands,j,jD s])]
    exact a
   ·grind
   grind
 case build t ps=>
  have:(ps.toList.map fun p=>(p.1,ρ p.2))=ps.toList.map fun p=>(p.1,ρ' p.2):=YR fun p u=>by
   grind
  rw[←this];exact a
 case buildSlice t n ps=>
  cases n with
  |zero=>exact a
  |succ n=>
   have:(ps.toList.map fun p=>(p.1,ρ p.2))=ps.toList.map fun p=>(p.1,ρ' p.2):=YR fun p u=>by
    grind
   simp only at a⊢
   rw[←this];exact a
 case makeFunc fn first g=>
  rw[←d first fun x e=>h x (by simp[e]),←d g fun x e=>h x (by simp[e])];exact a
 case slice t x lo hi A=>
  rw[←h x (by simp),show lo.map ρ'=lo.map ρ from by cases lo<;>simp_all,show hi.map ρ'=hi.map ρ from by cases hi<;>simp_all];exact a
 all_goals(first|(simp_all;done))
theorem tx{o:Oper}{s:Nat→AV}{K:St→Prop}(a:Cn o=true)(h:EB P l n o K ⟨s,H⟩):∃d v,o.dst=some d∧d<n∧qV P l H o (ev s) v∧K ⟨upd s d v,H⟩:=by
 have m:∃d,o.dst=some d:=by
  have:o.dst.isSome=true:=by
   unfold Cn BF at a
   rw[Bool.or_eq_true,Bool.and_eq_true,Bool.and_eq_true]at a
   rcases a with h|h
   ·exact h.1
   ·exact h.1
  exact YP.1 this
 obtain⟨d,m⟩:=m
 have i:A4 P H o.op (ev s) (B8 n o.dst K ⟨s,H⟩)→(∀v,A4 P H o.op (ev s) (fun y=>y=v)→qV P l H o (ev s) v)→∃d v,o.dst=some d∧d<n∧qV P l H o (ev s) v∧K ⟨upd s d v,H⟩:=fun h p=>by
  obtain⟨v,q,b⟩:=yH (au a) h
  rw[m]at b
  exact⟨d,v,m,b.1,p v q,b.2⟩
 unfold EB at h
 split at h
 ·rename_i z
  obtain⟨v,q,b⟩:=h
  rw[m]at b
  refine⟨d,v,m,b.1,?_,b.2⟩
  unfold qV
  rw[z]
  exact q
 ·rename_i c j
  replace a:BF o=true:=aP a fun t n ps e=>by rw[j]at e;cases e
  split at h
  ·rename_i f w
   simp only[]at h
   split at h
   ·rename_i g first A B
    obtain⟨r,q,b⟩:=h
    rw[m]at b
    refine⟨d,r,m,b.1,?_,b.2⟩
    simp only[qV,j,w,B]
    exact q
   ·exact h.elim
  ·rename_i w
   refine i ?_ ?_
   ·unfold Bp at h
    simp only[j]at h
    simp only[BF,j,Bool.and_eq_true]at a
    split at h
    ·rename_i f x;exact absurd x (w f)
    ·rename_i u;rw[u]at a;simp at a
    ·rw[j];exact h
   ·intro v p
    unfold qV
    rw[j]at p⊢
    cases k:c.callee with
    |value f=>exact absurd k (w f)
    |_=>simpa[k]using p
 ·rename_i u j
  replace a:BF o=true:=aP a fun t n ps e=>u _ _ _ e
  refine i ?_ ?_
  ·unfold Bp at h
   split at h
   ·rename_i he;simp[BF,he]at a
   ·rename_i he;simp[BF,he]at a
   ·rename_i he;simp[BF,he]at a
   ·rename_i he;simp[BF,he]at a
   ·rename_i he;simp[BF,he]at a
   ·rename_i c he;exact absurd he (j c)
   ·exact h
  ·intro v p
   unfold qV
   split
   ·rename_i he;exact absurd he (u _ _ _)
   ·rename_i c he;exact absurd he (j c)
   ·exact p
theorem ZH1{o:Oper}{s:Nat→AV}{v:AV}{d:Nat}(q:Cn o=true)(b:o.dst=some d)(a:d<n)(h:qV P l H o (ev s) v):BJ P l n B o (fun E=>E=⟨upd s d v,H⟩) ⟨s,H⟩:=by
 unfold qV at h
 split at h
 ·rename_i t len parts k
  obtain⟨e,sz,z,es,i,j,u,w,x,y,A,rfl⟩:=h
  exact r5 k b i j u w x y A a rfl
 ·rename_i c C
  split at h
  ·rename_i f p
   split at h
   ·rename_i g first m D
    refine tC C p D (h.mono fun r F ⟨i,j⟩=>?_)
    subst i;subst j
    rw[b]
    exact⟨a,rfl⟩
   grind
  ·rename_i p
   exact Qb (tz (au q) (by rw[b];exact⟨a,rfl⟩) h)
 ·exact Qb (tz (au q) (by rw[b];exact⟨a,rfl⟩) h)
end
section
variable {P:Program} {l n:Nat} {B:Base} {H:Hp} {ops:Array Oper} {md:Region.Mode} {Q:(Nat→AV)→Prop}
def YA(P:Program)(l:Nat)(H:Hp)(ops:Array Oper)(o:Oper)(s:Nat→AV)(v:AV):Prop:=
 match o.guard with
 |none=>qV P l H o (ev s) v
 |some (i,b)=>match Gu s (ops.toList.map (·.dst)) i b with
  |some t=>(t=true→qV P l H o (ev s) v)∧(t=false→v=.tup [])
  |none=>False
theorem wD{o:Oper}{s:Nat→AV}{v u:AV}{d:Nat}(k:d∉o.looksAt ops)(h:YA P l H ops o (upd s d u) v):YA P l H ops o s v:=by
 have f:∀x∈o.op.operands,ev (upd s d u) x=ev s x:=fun x p=>by
  cases x with
  |tmp t=>
   have c:t≠d:=fun e=>k (by
    subst e
    exact HI _ (List.mem_filterMap.2 ⟨.tmp t,by simpa using p,rfl⟩))
   simp[ev,upd,c]
  |_=>rfl
 unfold YA at*
 cases j:o.guard with
 |none=>simp only[j]at h⊢;exact tL f h
 |some m=>
  obtain⟨i,b⟩:=m
  simp only[j]at h⊢
  have g:Gu (upd s d u) (ops.toList.map (·.dst)) i b=Gu s (ops.toList.map (·.dst)) i b:=by
   unfold Gu
   simp only[Yx,Ym]
   cases n:ops[i]? with
   |none=>rfl
   |some q=>
    cases a:q.dst with
    |none=>simp[a]
    |some t=>
     have c:t≠d:=fun e=>k (by subst e;simp[Oper.looksAt,j,n,a])
     simp[a,upd,c]
  rw[g]at h
  split at h
  ·rename_i t r
   exact⟨fun e=>tL f (h.1 e),h.2⟩
  ·exact h
theorem ZES{o:Oper}{s:Nat→AV}{v u:AV}{d:Nat}(a:d∉o.looksAt ops)(h:YA P l H ops o s v):YA P l H ops o (upd s d u) v:=by
 refine wD (d:=d) (u:=s d) a ?_
 have:upd (upd s d u) d (s d)=s:=by funext j;unfold upd;split<;>simp_all
 grind
theorem Zvd{s:Nat→AV}{d e:Nat}{u v:AV}(h:d≠e):upd (upd s d u) e v=upd (upd s e v) d u:=by
 funext j
 unfold upd
 grind
end
def LM(P:Program)(t:TypeId)(i:Nat):Option (Nat×Nat×Bool):=
 match P.underlying t with
 |some (.struct a)=>(a[i]?).bind fun f=>(Db P f.type).map fun b=>(f.offset,P.cellsOf f.type,b)
 |_=>none
def Lh(o:Option (Nat×Nat×Bool))(x:AV)(K:AV→Prop):Prop:=
 match o,x with
 |some (o,n,true),.agg cs=>n≠0∧K (.agg ((cs.drop o).take n))
 |some (o,_,false),.agg cs=>(match cs[o]? with|some c=>K c|none=>False)
 |_,_=>False
theorem Zqa{P:Program}{t:TypeId}{i:Nat}{x:AV}{K:AV→Prop}:DZ P t i x K=Lh (LM P t i) x K:=by
 unfold DZ LM
 cases x with
 |agg cs=>
  cases j:P.underlying t with
  |none=>rfl
  |some d=>
   cases d with
   |struct a=>
    simp only
    cases g:a[i]? with
    |none=>rfl
    |some f=>
     simp only[Yg]
     cases c:Db P f.type with
     |none=>rfl
     |some b=>cases b<;>rfl
   |_=>rfl
 |_=>
  have e:∀(o:Option (Nat×Nat×Bool)) (y:AV),(∀cs,y≠.agg cs)→Lh o y K=False:=fun o y h=>by
   unfold Lh
   grind
  grind
structure fins (P:Program) (l:Nat) (H:Hp) (rs:List ResultVar) (Post:AV→Hp→Prop) (e:Exit) (σ:St):Prop where
 he:e=.normal∨e=.ret
 hy:DK P σ rs (fun xs=>∃y,Fz σ.H l (CW xs) y∧Post y (Gv l σ.H H))
inductive Fit:D→Prop
 |int (k:IntKind) (n:Int):Fit (.int k n)
 |bool (b:Bool):Fit (.bool b)
 |str (s:ByteArray) (h:s.size<2147483648):Fit (.str s)
 |list (es:List (List D)) (hl:es.length<2147483648) (h:∀e∈es,∀x∈e,Fit x):Fit (.list es)
def H3(l:List D):Prop:=∀d∈l,Fit d
theorem Fit.len{α:Type}{e:α→List D}{xs:List α}(h:Fit (.list (xs.map e))):xs.length<2147483648:=by
 cases h with|list _ hl h=>simpa using hl
theorem Fit.mem{α:Type}{e:α→List D}{xs:List α}(h:Fit (.list (xs.map e))){x:α}(a:x∈xs):H3 (e x):=by
 cases h with|list _ hl h=>exact h _ (Lc a)
theorem Fit.el{α:Type}{e:α→List D}{xs:List α}(h:Fit (.list (xs.map e))){i:Nat}{x:α}(a:xs[i]?=some x):H3 (e x):=h.mem (Yi a)
theorem H3.at{l:List D}(h:H3 l)(i:Nat){d:D}(hi:l[i]?=some d):Fit d:=h d (Yi hi)
theorem H3.sub{l:List D}(h:H3 l)(i n:Nat){m:List D}(hi:(l.drop i).take n=m):H3 m:=by
 subst hi
 exact fun d a=>h d (Lb (TB a))
def nrm:AV→AV
 |.e0=>.d (.list [])
 |.agg xs=>.agg (xs.map fun x=>match x with|.e0=>.d (.list [])|x=>x)
 |x=>x
section
variable {P:Program} {l n:Nat} {B:Base} {H H':Hp} {K:St→Prop} {σ σ':St} {Q:Exit→St→Prop} {s:Nat→AV} {ds:List (Option Nat)} {d:Option Nat} {op:Op} {ty:TypeId} {ps:String} {af:Array Edge} {rest:List Oper}
 {g:Option (Nat×Bool)} {x y:Operand} {t:TypeId}
theorem be{a b:Code}(h:Bz P l n B a (mc (Bz P l n B b Q) Q) σ):Bz P l n B (.seq a b) Q σ:=z1 fun _ c=>FX h fun e σ' h=>by
 cases e<;>first|exact c σ' h|exact h
theorem JJ{a:Int}{i:Nat}(h:a=(i:Int))(hi:i<9223372036854775808):IntKind.wrap .i64 a=(i:Int):=by
 subst h
 exact IntWalk.i64_in _ ⟨by omega,by omega⟩
theorem ZvK{f:FuncId}{fn:Func}(g:List ResultVar){c:Code}{xs:List AV}{a:AV→Hp→Prop}(j:P.funcs[f]?=some fn)(i:fn.body=some c)(b:(fn.name== "runtime.NumGoroutine")=false)
  (k:fn.ntmps=n) (m:fn.results.toList=g) (o:xs.length≤n) (h:∀B:Base,Bz P l n B c (fins P l H g a) ⟨args xs,CC l H⟩):Zct P f l xs H a:=by
 refine Zu5 j i b k o fun B=>FX (h B) fun e σ d=>?_
 unfold rc
 rw[m]
 exact⟨d.he,d.hy⟩
theorem Fz.data{xs:List D}:Fz H' l (.agg (xs.map .d)) (.agg (xs.map .d)):=
 .agg _ _ rfl fun i x y a hy=>by
  rw[a]at hy;cases hy
  rw[Yx]at a
  cases hi:xs[i]? with
  |none=>rw[hi]at a;cases a
  |some d=>rw[hi]at a;cases a;exact .keep _ rfl
theorem Fz.pure{xs:List AV}{ds:List D}(h:Ci xs=some ds):Fz H' l (.agg xs) (.agg (ds.map .d)):=
 .agg _ _ (by rw[Yp];exact aa h) fun i x y a hy=>by
  rw[Yx]at hy
  cases hi:ds[i]? with
  |none=>rw[hi]at hy;cases hy
  |some d=>
   rw[hi]at hy;cases hy
   have:=tK h a hi
   cases x<;>simp only[C4]at this<;>cases this
   ·exact .keep _ rfl
   ·exact .e0
theorem Fz.d'{x:AV}{y:D}(h:x=.d y):Fz H' l x (.d y):=by subst h;exact .keep _ rfl
theorem Fz.two{x y x' e:AV}(f:Fz H' l x x')(hy:Fz H' l y e):Fz H' l (CW [x,y]) (.tup [x',e]):=
 .tup _ _ rfl fun i a b c d=>by
  match i with
  |0=>cases c;cases d;exact f
  |1=>cases c;cases d;exact hy
  |i+2=>simp at c
theorem Fz.one{x x':AV}(a:Fz H' l x x'):Fz H' l (CW [x]) x':=a
theorem RepA.nrm{S:Nat→Prop}{m:Mu}{w:World}{x:AV}{v:Value}(h:RepA w S H m l x v):RepA w S H m l (nrm x) v:=by
 cases x with
 |e0=>exact h.e0_d
 |agg xs=>
  cases h with
  |agg _ vs c a h=>
   refine .agg _ _ (by simpa using c) a (fun i y v hy b=>?_)
   rw[Yx]at hy
   cases hi:xs[i]? with
   |none=>rw[hi]at hy;cases hy
   |some x=>
    rw[hi]at hy
    simp only[YM,Yf]at hy
    subst hy
    have:=h i x v hi b
    split
    ·exact this.e0_d
    grind
 |_=>exact h
theorem Zct.nrm{f:FuncId}{xs:List AV}{a:AV→Hp→Prop}(h:Zct P f l (xs.map nrm) H a):Zct P f l xs H a:=
 ⟨h.1,fun m S w vs d c=>h.2 m S w vs d ⟨by simpa using c.1,fun i x v b e=>by
  rw[Yx]at b
  cases hi:xs[i]? with
  |none=>rw[hi]at b;cases b
  |some y=>
   rw[hi]at b
   simp only[YM,Yf]at b
   subst b
   exact(c.2 i y v hi e).nrm⟩⟩
end
def MA:List Operand→List Nat
 |[]=>[]
 |.tmp t::r=>t::MA r
 |_::r=>MA r
def Ja:List (Option Nat)→Nat→Option Nat
 |[],_=>none
 |x::_,0=>x
 |_::r,i+1=>Ja r i
def Et(ds:List (Option Nat))(o:Oper):List Nat:=
 MA o.op.operands.toList++match o.guard with
  |some (g,_)=>(match Ja ds g with|some d=>[d]|none=>[])
  |none=>[]
def Es:List (Nat×Nat)→Nat→Option Nat
 |[],_=>none
 |(d,k)::r,t=>match Nat.beq d t with|true=>some k|false=>Es r t
def BO(o:Oper)(i:Nat):Bool:=o.after.toList.any fun e=>Region.binds .any e&&Nat.beq e.on i
def clear(o:Oper)(d:Nat):List (Nat×Nat)→Bool
 |[]=>true
 |(t,i)::r=>(match Nat.beq t d with|true=>BO o i|false=>true)&&clear o d r
theorem tW{o:Oper}{d i:Nat}:∀{l:List (Nat×Nat)},clear o d l=true→(d,i)∈l→BO o i=true
 |[],_,h=>by cases h
 |(t,j)::r,a,h=>by
  simp only[clear,Bool.and_eq_true]at a
  rcases Yw.1 h with h|h
  ·cases h
   have:=a.1
   rw[NN]at this
   exact this
  ·exact tW a.2 h
def Ku(ds:List (Option Nat)):Nat→List (Nat×Nat)→List (Nat×Nat)→List Oper→Bool
 |_,_,_,[]=>true
 |k,seen,a,o::r=>
  (o.after.toList.all fun e=>!Region.binds .any e||Nat.ble (e.on+1) k)&&
  ((Et ds o).all fun t=>match Es seen t with|some i=>BO o i|none=>true)&&
  match o.dst with
  |some d=>(Es seen d).isNone&&clear o d a&&Ku ds (k+1) ((d,k)::seen) ((Et ds o).map (·,k)++a) r
  |none=>Ku ds (k+1) seen ((Et ds o).map (·,k)++a) r
def RM:List Oper→Bool
 |[]=>true
 |o::r=>(match o.op with|.select _ _=>false|_=>true)&&RM r
def R4(ops:List Oper):Bool:=RM ops&&Ku (ops.map (·.dst)) 0 [] [] ops
theorem Zpw(xs:List Operand):MA xs=xs.filterMap fun|.tmp t=>some t|_=>none:=by
 induction xs with
 |nil=>rfl
 |cons x xs a=>cases x<;>simp[MA,a]
theorem uZ:∀(ds:List (Option Nat)) (i:Nat),Ja ds i=(ds[i]?).join
 |[],i=>by simp[Ja]
 |x::r,0=>by simp[Ja]
 |x::r,i+1=>by simp[Ja,uZ r i]
theorem tR(ops:List Oper)(o:Oper):Et (ops.map (·.dst)) o=o.looksAt ops.toArray:=by
 unfold Et Oper.looksAt
 rw[Zpw]
 congr 1
 cases d:o.guard with
 |none=>rfl
 |some a=>
  obtain⟨g,b⟩:=a
  simp only
  rw[uZ,Yx]
  simp only[ND]
  cases ops[g]? with
  |none=>rfl
  |some c=>simp only[YM,Option.join_some,Yg];cases c.dst<;>rfl
structure FInv (ds:List (Option Nat)) (pre:List Oper) (seen:List (Nat×Nat)) (looked:List (Nat×Nat)):Prop where
 s1:∀d i,Es seen d=some i→∃o,pre[i]?=some o∧o.dst=some d
 s2:∀(i:Nat) (o:Oper) (d:Nat),pre[i]?=some o→o.dst=some d→Es seen d=some i
 lo:∀(i:Nat) (o:Oper),pre[i]?=some o→∀t∈Et ds o,(t,i)∈looked
def Qu(ds:List (Option Nat))(x y:Oper):Prop:=(∀d,x.dst=some d→d∉Et ds y∧y.dst≠some d)∧(∀d,y.dst=some d→d∉Et ds x)
theorem sr(ds:List (Option Nat)):∀(rest pre:List Oper) (seen c:List (Nat×Nat)),FInv ds pre seen c→Ku ds pre.length seen c rest=true→
  ∀(j:Nat) (p:Oper),rest[j]?=some p→(∀e∈p.after,Region.binds .any e=true→e.on<pre.length+j)∧
   ∀(i:Nat) (n:Oper),i<pre.length+j→(pre++rest)[i]?=some n→BO p i=true∨Qu ds n p
 |[],pre,seen,c,u,h,j,p,A=>by simp at A
 |o::r,pre,seen,c,u,h,j,p,A=>by
  simp only[Ku,Bool.and_eq_true]at h
  obtain⟨⟨G,H⟩,s⟩:=h
  cases j with
  |zero=>
   simp only[YQ,Yf]at A
   subst A
   refine⟨fun e he D=>?_,fun i n hi g=>?_⟩
   ·have:=Yk.1 G e (by simpa using he)
    simp only[D,HH,NL]at this
    have:=Yc this
    omega
   ·rw[Yh (by omega)]at g
    by_cases z:BO o i=true
    ·exact .inl z
    ·right
     refine⟨fun d v=>⟨fun hm=>?_,fun k=>?_⟩,fun d v hm=>?_⟩
     ·have:=Yk.1 H d hm
      rw[u.s2 i n d g v]at this
      exact z this
     ·rw[k]at s
      simp only[Bool.and_eq_true]at s
      have:=s.1.1
      rw[u.s2 i n d g v]at this
      cases this
     ·rw[v]at s
      simp only[Bool.and_eq_true]at s
      exact z (tW s.1.2 (u.lo i n g d hm))
  |succ j=>
   simp only[Y6]at A
   have q:∀(f:List (Nat×Nat)),(∀d i,Es f d=some i→∃m,(pre++[o])[i]?=some m∧m.dst=some d)→(∀(i:Nat) (m:Oper) (d:Nat),(pre++[o])[i]?=some m→m.dst=some d→Es f d=some i)→
     FInv ds (pre++[o]) f ((Et ds o).map (·,pre.length)++c):=fun f a b=>⟨a,b,fun i m g t F=>by
    rcases K1 i pre.length with l|heq|B
    ·rw[Yh l]at g;exact List.mem_append_right _ (u.lo i m g t F)
    ·subst heq;simp at g;subst g;exact HI _ (Yy.2 ⟨t,F,rfl⟩)
    ·rw[YE (by simp;omega)]at g;cases g⟩
   have fin:∀f,FInv ds (pre++[o]) f ((Et ds o).map (·,pre.length)++c)→Ku ds (pre.length+1) f ((Et ds o).map (·,pre.length)++c) r=true→_:=fun f C J=>
    sr ds r (pre++[o]) f ((Et ds o).map (·,pre.length)++c) C (by simpa using J) j p A
   have conv:(∀e∈p.after,Region.binds .any e=true→e.on<(pre++[o]).length+j)∧(∀(i:Nat) (n:Oper),i<(pre++[o]).length+j→(pre++[o]++r)[i]?=some n→BO p i=true∨Qu ds n p)→
     (∀e∈p.after,Region.binds .any e=true→e.on<pre.length+(j+1))∧(∀(i:Nat) (n:Oper),i<pre.length+(j+1)→(pre++o::r)[i]?=some n→BO p i=true∨Qu ds n p):=by
    rintro⟨a,b⟩
    simp only[Yo,YV,Y8,Y2,K2,FO]at a b
    exact⟨fun e he D=>by have:=a e he D;omega,fun i n hi g=>b i n (by omega) g⟩
   split at s
   ·rename_i d v
    simp only[Bool.and_eq_true]at s
    obtain⟨⟨E,K⟩,I⟩:=s
    have y:Es seen d=none:=by cases w:Es seen d with|none=>rfl|some i=>rw[w]at E;cases E
    refine conv (fin _ (q ((d,pre.length)::seen) (fun d' i w=>?_) (fun i m d' g k=>?_)) I)
    ·simp only[Es]at w
     split at w
     ·rename_i he;cases w;rw[←Ya he];exact⟨o,by simp,v⟩
     ·obtain⟨m,a,b⟩:=u.s1 d' i w
      refine⟨m,?_,b⟩
      rw[Yh];exact a
      rcases Ys i pre.length with l|x
      ·exact l
      ·rw[YE x]at a;cases a
    ·simp only[Es]
     rcases K1 i pre.length with l|heq|B
     ·rw[Yh l]at g
      have:=u.s2 i m d' g k
      split
      ·rename_i he
       rw[←Ya he,y]at this;cases this
      ·exact this
     ·subst heq;simp at g;subst g;rw[v]at k;cases k;simp
     ·rw[YE (by simp;omega)]at g;cases g
   ·rename_i v
    refine conv (fin _ (q seen (fun d' i w=>?_) (fun i m d' g k=>?_)) s)
    ·obtain⟨m,a,b⟩:=u.s1 d' i w
     refine⟨m,?_,b⟩
     rw[Yh];exact a
     rcases Ys i pre.length with l|x
     ·exact l
     ·rw[YE x]at a;cases a
    ·rcases K1 i pre.length with l|heq|B
     ·rw[Yh l]at g;exact u.s2 i m d' g k
     ·subst heq;simp at g;subst g;rw[v]at k;cases k
     ·rw[YE (by simp;omega)]at g;cases g
theorem Zj5{ops:List Oper}{x y:Oper}(h:Qu (ops.map (·.dst)) x y):x.apart ops.toArray y=true:=by
 obtain⟨a,c⟩:=h
 rw[tR]at c
 have b:∀d,x.dst=some d→d∉y.looksAt ops.toArray∧y.dst≠some d:=fun d e=>by have:=a d e;rw[tR]at this;exact this
 unfold Oper.apart
 grind
theorem sN{ops:Array Oper}(m:∀(j:Nat) (c:Oper),ops[j]?=some c→∀e∈c.after,Region.binds .any e=true→e.on<j)
  (n:∀(i j:Nat) (o c:Oper),i<j→ops[i]?=some o→ops[j]?=some c→BO c i=true∨o.apart ops c=true):
  ∀(fuel k:Nat) (a:Array Bool),fuel+k=ops.size→a.size=ops.size→(∀j,j<ops.size→a[j]?=some (decide (j<k)))→Region.lexFrom .any ops fuel k a=true
 |0,k,a,q,hs,hl=>by
  simp only[Region.lexFrom]
  rw[List.isEmpty_iff,Region.ready,jP]
  intro i hi
  have hi:=K6.1 hi
  have:=hl i hi
  simp[Yq,this]
  omega
 |fuel+1,k,a,q,hs,hl=>by
  have g:k<ops.size:=by omega
  have b:ops[k]?=some ops[k]:=Yj g
  simp only[Region.lexFrom,Bool.and_eq_true]
  refine⟨⟨?_,?_⟩,sN m n fuel (k+1) _ (by omega) (by simp[hs]) (fun j d=>?_)⟩
  ·rw[List.contains_iff_mem]
   unfold Region.ready
   refine YW.2 ⟨K6.2 g,?_⟩
   rw[Bool.and_eq_true]
   refine⟨by simp[Yq,hl k g],?_⟩
   rw[b]
   simp only[YM,YZ]
   rw[Array.all_eq_true_iff_forall_mem]
   intro e he
   by_cases p:Region.binds .any e=true
   ·have:=m k _ b e he p
    simp[Yq,hl e.on (by omega),this]
   grind
  ·unfold Region.free
   rw[b]
   simp only[Yk,K6]
   intro j d
   rw[Bool.or_eq_true,Bool.or_eq_true]
   rcases K1 j k with l|heq|f
   ·left;right;simp[Yq,hl j d,l]
   ·grind
   ·right
    rw[Yj d]
    simp only
    rw[Bool.or_eq_true]
    rcases n k j _ _ f b (Yj d)with h|h
    ·left
     unfold BO at h
     obtain⟨e,he,h⟩:=YL.1 h
     rw[←Array.any_toList]
     exact YL.2 ⟨e,he,by simpa using h⟩
    grind
  grind
theorem sF{ops:List Oper}(h:R4 ops=true):Region.lexB .any ops.toArray=true:=by
 unfold R4 at h
 rw[Bool.and_eq_true]at h
 have g:∀(l:List Oper),RM l=true→l.all (fun o=>match o.op with|.select ..=>false|_=>true)=true:=fun l=>by
  induction l with
  |nil=>intro _;rfl
  |cons o l p=>
   intro m
   simp only[RM,Bool.and_eq_true]at m
   grind
 have key:=sr (ops.map (·.dst)) ops [] [] [] ⟨fun d i k=>by simp[Es]at k,fun i o d e=>by simp at e,fun i o e=>by simp at e⟩ h.2
 simp only[Y8,YD,FO]at key
 unfold Region.lexB
 rw[Bool.and_eq_true]
 refine⟨?_,sN (fun j f b=>(key j f (by simpa using b)).1) (fun i j n f c hi b=>?_) _ 0 _ rfl (by simp) (fun j b=>by simp at b⊢;simp[b])⟩
 ·unfold Region.noSelect
  grind
 ·rcases(key j f (by simpa using b)).2 i n c (by simpa using hi)with a|a
  ·grind
  ·exact .inr (Zj5 a)
end Go.Eng
