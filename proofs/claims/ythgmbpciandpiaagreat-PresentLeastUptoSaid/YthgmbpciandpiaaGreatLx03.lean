import Derived.Test.YthgmbpciandpiaaGreatLx02
import Derived.KernelRfl
import Derived.Still
import Derived.IntWalk
import Derived.Test.YthgmbpciandpiaaGreatLx00
namespace Go.Eng
set_option linter.all false
open Go Go.RowKit
def H8(s:Nat→AV)(ds:List (Option Nat))(i:Nat)(b:Bool):Option Bool:=
 match ds[i]? with
 |some (some d)=>match s d with|.d (.bool t)=>some (t==b)|.tup []=>some false|_=>none
 |_=>none
def BT(P:Program)(l n:Nat)(B:Base)(c:Code)(Q:Exit→St→Prop)(σ:St):Prop:=
 ∀a w,R l n B σ a w→c.wp P (fun e d w'=>∃b,Q e b∧R l n B b d w') a w
def vn(K:St→Prop)(Q:Exit→St→Prop):Exit→St→Prop
 |.normal,σ=>K σ
 |e,σ=>Q e σ
def Vb(id:Nat)(Q:Exit→St→Prop):Exit→St→Prop
 |.exit i,σ=>if i=id then Q .normal σ else Q (.exit i) σ
 |e,σ=>Q e σ
section
variable {P:Program} {l n:Nat} {B:Base} {H H':Hp} {m m':Mu} {S S':Nat→Prop} {w w':World} {s:Nat→AV} {a:Act} {K:St→Prop} {o:Oper} {σ:St} {Q:Exit→St→Prop}
theorem Zok{xs ys:List AV}{vs e:Array Value}(h:Mo w S H m l xs vs)(k:Mo w S H m l ys e):Mo w S H m l (xs++ys) (vs++e):=by
 refine⟨by simp[h.1,k.1],fun i x v d c=>?_⟩
 rcases YH i xs.length with b|a
 ·rw[Yn b]at d
  rw[NC (by rw[←h.1];exact b)]at c
  exact h.2 i x v d c
 ·rw[Yt a]at d
  rw[Array.getElem?_append_right (by rw[←h.1];exact a),←h.1]at c
  exact k.2 _ x v d c
theorem Zpt{c:Call}{f:Operand}{g:FuncId}{first b:List AV}(O:o.op=.call c)(M:c.callee=.value f)(N:ev s f=.fn (.func g) first b)
  (h:ZcF P g (l+1) (first++c.args.toList.map (ev s)++b) H (NX n o.dst K ⟨s,H⟩)):Ca P l n B o K ⟨s,H⟩:=by
 intro a w L Q
 obtain⟨m,S,J,A,q,y,t⟩:=L.un
 obtain⟨⟨fn,cd,F,G,I⟩,h⟩:=h
 have j:=Cg y f
 rw[N]at j
 generalize U:a.eval f=W at j
 cases j with
 |fn _ _ _ vs C V hy D E=>
  have i:Mo w S H m (l+1) (first++c.args.toList.map (ev s)++b) (vs++c.args.map a.eval++C):=
   Zok (Zok ⟨V,D⟩ (OZ y c.args)) ⟨hy,E⟩
  have u:(execOp a.eval o).run P w=.ok (.enter g (vs++c.args.map a.eval++C)) w:=by
   unfold execOp
   simp only[O,resolve,M,U,Deferred.ofValue,Sem.run_bind,Sem.run_pure,Result.andThen_ok,invoke]
   exact Go.MuLone.run_callFunc_enter F I G _ w
  unfold Oper.wp
  rw[u]
  refine(h m S w _ J i).mono fun e w' ⟨r,v,H',m',S',he,k,p,T,x⟩=>?_
  subst he
  unfold NX CL at k
  cases z:o.dst with
  |none=>
   rw[z]at k
   exact⟨_,k,R.keep p A q y t x⟩
  |some d=>
   rw[z]at k
   exact⟨_,k.2,R.step p A q y t x k.1 T⟩
theorem Mg(h:BI P l n o K σ):Ca P l n B o K σ:=by
 obtain⟨s,H⟩:=σ
 unfold BI at h
 split at h
 ·rename_i t a
  split at h
  ·rename_i d z b j;exact Zxu a b j h.1 h.2
  grind
 ·rename_i t x a
  split at h
  ·rename_i d z b j;exact ZLW a b j h.1 h.2
  grind
 ·rename_i t p x a
  split at h
  ·rename_i k g off vs b R G
   obtain⟨r,A,C,D,E,O,Q⟩:=h
   exact Zse a b R G r A C D E O Q
  grind
 ·rename_i t len parts a
  split at h
  ·rename_i d e sz b he
   obtain⟨q,h⟩:=h
   split at h
   ·exact ZiC a b he q h.1 h.2.1 h.2.2
   ·rename_i len
    obtain⟨i,h⟩:=h
    split at h
    ·rename_i z j
     obtain⟨w,h⟩:=h
     split at h
     ·rename_i es u;exact ZgO a b he q i j w u h.1 h.2.1 h.2.2
     ·split at h
      ·rename_i cs u;exact ZfF a b he q i j w u h
      grind
    grind
  grind
 ·rename_i t x y a
  split at h
  ·rename_i d e sz T c U S b he G hy
   obtain⟨r,A,C,D,E,h⟩:=h
   split at h
   ·rename_i z j;exact Zzi a b he G hy r A C D E j h.1 h.2
   grind
  grind
 ·rename_i c a
  split at h
  ·rename_i f F
   split at h
   ·rename_i g first I u;exact Zpt a F u h
   grind
  ·rename_i F
   split at h
   ·rename_i d x y t J b m v
    obtain⟨r,h⟩:=h
    have L:c.args=#[x,y]:=C7 (by simpa using m)
    have M:J=t:=by
     have:c.argTypes=#[t,J]:=C7 (by simpa using v)
     grind
    have N:c.argTypes=#[t,t]:=C7 (by rw[v,M])
    exact ZqT a F L N b h
   grind
  ·rename_i r A;exact Uq h
 ·exact Uq h
theorem ZlQ{ops:Array Oper}(n:C1 l s H m S a w){i:Nat}{b t:Bool}(h:H8 s (ops.toList.map (·.dst)) i b=some t):(yielded ops a.tmps i==some b)=t:=by
 unfold H8 at h
 split at h
 ·rename_i d f
  have e:=n d
  rw[YL,Yr]at f
  cases j:ops[i]? with
  |none=>rw[j]at f;cases f
  |some o=>
   rw[j]at f
   simp only[YZ,Yi]at f
   split at h
   ·rename_i q k
    simp only[Yi]at h
    subst h
    rw[k]at e
    have c:d<a.tmps.size:=by
     rcases YH d a.tmps.size with c|g
     ·exact c
     ·exfalso
      rw[Yz,F7 g]at e
      simp only[Option.getD_none]at e
      generalize p:undef=u at e
      cases e with
      |d _ _ f=>cases f;cases p
    unfold yielded
    rw[j]
    simp only[Ye,f,Yp c]
    rw[Yz,Yp c]at e
    simp only[YU]at e
    generalize a.tmps[d]=v at e
    cases e with
    |d _ _ f=>cases f;cases q<;>cases b<;>rfl
   ·rename_i k
    simp only[Yi]at h
    subst h
    rw[k]at e
    unfold yielded
    rw[j]
    simp only[Ye,f]
    rcases YH d a.tmps.size with c|g
    ·simp only[Yp c]
     rw[Yz,Yp c]at e
     simp only[YU]at e
     generalize a.tmps[d]=v at e
     cases e with
     |tup _ _ _ _=>rfl
    grind
   ·cases h
 ·cases h
theorem fB{ops:Array Oper}{rest:List Oper}{KK:St→Prop}{QQ:Exit→Act→World→Prop}(m:Region.wanted o (yielded ops a.tmps)=true)(h:Ca P l n B o KK σ)(k:R l n B σ a w)
  (j:∀b i w',KK b→R l n B b i w'→wpList P ops QQ rest i w'):wpList P ops QQ (o::rest) a w:=by
 unfold wpList
 rw[Yg m]
 refine .inl ?_
 have:=h a w k QQ
 unfold Oper.wp at this⊢
 revert this
 generalize (execOp a.eval o).run P w=r
 have mono:∀(r:Result Next),o.upon P a (fun i w'=>∃b,KK b∧R l n B b i w') QQ r→o.upon P a (wpList P ops QQ rest) QQ r:=by
  intro r h
  cases r with
  |ok x p=>
   cases x<;>first
    |exact h
    |(simp only[Oper.upon]at h⊢;obtain⟨b,d,g⟩:=h;exact j b _ _ d g)
    |skip
   ·rename_i f args
    simp only[Oper.upon]at h⊢
    refine Calls.mono h fun e w2 he=>?_
    cases e with
    |returned v=>obtain⟨b,d,g⟩:=he;exact j b _ _ d g
    |panicked c=>exact he
    |outgrown=>exact he
   ·rename_i row args
    simp only[Oper.upon]at h⊢
    exact Rows.mono h fun v w2 ⟨b,d,g⟩=>j b _ _ d g
  |halt x p=>cases x<;>exact h
 exact mono r
theorem R.undef{d:Nat}(f:R l n B σ a w)(j:d<n):R l n B ⟨upd σ.s d (.tup []),σ.H⟩ (a.put (some d) undef) w:=by
 obtain⟨s,H⟩:=σ
 obtain⟨m,S,e,k,b,g,c⟩:=f.un
 exact R.step e k b g c (Ext.refl _ _ _ _ _) j (.tup [] #[] rfl (fun i x v h=>by simp at h))
theorem Hz{c:Code}{b:Exit→St→Prop}(h:BT P l n B c Q σ)(i:∀e σ,Q e σ→b e σ):BT P l n B c b σ:=
 fun a w g=>wp_mono (h a w g) fun _ _ _ ⟨j,d,f⟩=>⟨j,i _ _ d,f⟩
theorem ZAv(h:Q .normal σ):BT P l n B .skip Q σ:=fun _ _ a=>wp_skip ⟨σ,h,a⟩
theorem ZMp(h:Q .ret σ):BT P l n B .ret Q σ:=fun _ _ a=>wp_ret ⟨σ,h,a⟩
theorem ZAP{id:Nat}(h:Q (.exit id) σ):BT P l n B (.exit id) Q σ:=fun _ _ a=>wp_exit ⟨σ,h,a⟩
theorem ZK1{x y:Code}(h:∀K:St→Prop,(∀b,BT P l n B y Q b→K b)→BT P l n B x (vn K Q) σ):BT P l n B (.seq x y) Q σ:=by
 intro a w i
 refine wp_seq (wp_mono (h _ (fun _ h=>h) a w i) fun e g w' ⟨b,d,f⟩=>?_)
 cases e with
 |normal=>exact d g w' f
 |exit id=>exact⟨b,d,f⟩
 |goto id=>exact⟨b,d,f⟩
 |ret=>exact⟨b,d,f⟩
 |panic c=>exact⟨b,d,f⟩
 |outgrown=>exact⟨b,d,f⟩
theorem ZMh(b:R l n B σ a w){c:Operand}{t:Bool}(h:ev σ.s c=.d (.bool t)):a.eval c=.bool t:=by
 obtain⟨s,H⟩:=σ
 obtain⟨m,S,j,k,g,e,i⟩:=b.un
 have:=Cg e c
 rw[show ev s c=.d (.bool t)from h]at this
 generalize a.eval c=v at this
 cases this with
 |d _ _ f=>cases f;rfl
theorem OO{c:Operand}{x y:Code}{t:Bool}(g:ev σ.s c=.d (.bool t))(d:t=true→BT P l n B x Q σ)(f:t=false→BT P l n B y Q σ):BT P l n B (.cond c x y) Q σ:=
 fun a w b=>wp_cond_split (ZMh b g) (fun e=>d e a w b) (fun e=>f e a w b)
theorem Zk9{id:Nat}{c:Code}(h:BT P l n B c (Vb id Q) σ):BT P l n B (.block id c) Q σ:=by
 intro a w g
 refine wp_block (wp_mono (h a w g) fun e j w' ⟨f,b,d⟩=>?_)
 cases e with
 |exit i=>
  unfold Vb at b
  unfold Exit.inBlock
  grind
 |normal=>exact⟨f,b,d⟩
 |goto id=>exact⟨f,b,d⟩
 |ret=>exact⟨f,b,d⟩
 |panic c=>exact⟨f,b,d⟩
 |outgrown=>exact⟨f,b,d⟩
end
end Go.Eng
namespace Go.Eng
set_option linter.all false
open Go Go.RowKit
def args(xs:List AV):Nat→AV:=fun i=>(xs[i]?).getD .top
def Ds(l:Nat)(H:Hp):Hp:=fun k=>if k.1≤l then H k else⟨0,false,0,0,[]⟩
def Ia(l:Nat)(H' H:Hp):Hp:=fun k=>if k.1≤l then H' k else H k
def EN(P:Program)(σ:St):List ResultVar→(List AV→Prop)→Prop
 |[],K=>K []
 |.tmp t::rest,K=>EN P σ rest (fun xs=>K (σ.s t::xs))
 |.cell a t::rest,K=>EI P σ.H t (σ.s a) (fun x=>EN P σ rest (fun xs=>K (x::xs)))
def DL:List AV→AV
 |[x]=>x
 |xs=>.tup xs
inductive Fz (H:Hp) (l:Nat):AV→AV→Prop
 |keep (x:AV) (h:x.low l=true):Fz H l x x
 |e0:Fz H l .e0 (.d (.list []))
 |mp (k:Ad) (a:Bool) (es:List (List D)) (hk:k.1=l+1) (hl:(H k).live=true) (he:(H k).e=.m a es):Fz H l (.mp k (H k).g) (.d (.map a es))
 |ref (k:Ad) (off n:Nat) (es:List (List D)) (hk:k.1=l+1) (hl:(H k).live=true) (hn:es.length=n) (hz:(H k).sz≠0) (he:∀e,e∈es→e.length=(H k).sz)
   (hlen:(off+n)*(H k).sz≤(H k).cells.length)
   (h:∀(i j:Nat) (e:List D) (d:D) (x:AV),es[i]?=some e→e[j]?=some d→(H k).cells[(off+i)*(H k).sz+j]?=some x→Fz H l x (.d d)):
   Fz H l (.ref k (H k).g off n) (.d (.list es))
 |agg (xs ys:List AV) (hl:xs.length=ys.length) (h:∀(i:Nat) (x y:AV),xs[i]?=some x→ys[i]?=some y→Fz H l x y):Fz H l (.agg xs) (.agg ys)
 |tup (xs ys:List AV) (hl:xs.length=ys.length) (h:∀(i:Nat) (x y:AV),xs[i]?=some x→ys[i]?=some y→Fz H l x y):Fz H l (.tup xs) (.tup ys)
def ZXz(P:Program)(fn:Func)(l:Nat)(H:Hp)(a:AV→Hp→Prop):Exit→St→Prop:=fun e σ=>
 (e=.normal∨e=.ret)∧EN P σ fn.results.toList (fun xs=>∃y,Fz σ.H l (DL xs) y∧a y (Ia l σ.H H))
section
variable {P:Program} {l n:Nat} {B:Base} {H H':Hp} {m m':Mu} {S S':Nat→Prop} {w w':World} {s:Nat→AV} {a:Act} {K:St→Prop} {o:Oper} {σ:St} {Q:Exit→St→Prop}
theorem ZqQ{t:TypeId}{v b:Value}(h:(Instr.loadAt t v).run P w=.ok b w):(do loadVar t (←asAddr v):Sem Value).run P w=.ok b w:=by
 cases v<;>try (simp[Instr.loadAt,Instr.sureAddr]at h;done)
 rename_i p
 cases p with
 |none=>simp[Instr.loadAt,Instr.sureAddr]at h
 |some a=>simpa[Instr.loadAt,Instr.sureAddr,asAddr]using h
def N1(tmps:Array Value):ResultVar→Sem Value
 |.tmp t=>pure (tmps.getD t undef)
 |.cell p t=>do loadVar t (←asAddr (tmps.getD p undef))
theorem fY(k:Ok (l+1) H m S w)(b:C1 (l+1) s H m S a w):∀(rs:List ResultVar) (K:List AV→Prop),EN P ⟨s,H⟩ rs K→
  ∃(vs:List Value) (xs:List AV),(rs.mapM (N1 a.tmps)).run P w=.ok vs w∧xs.length=vs.length∧
   (∀(i:Nat) (x:AV) (v:Value),xs[i]?=some x→vs[i]?=some v→RepA w S H m (l+1) x v)∧K xs
 |[],K,h=>⟨[],[],by simp,rfl,fun i x v h=>by simp at h,h⟩
 |.tmp t::rest,K,h=>by
  obtain⟨vs,xs,f,g,n,j⟩:=fY k b rest _ h
  refine⟨a.tmps.getD t undef::vs,s t::xs,by simp only[QM,N1,Sem.run_bind,Sem.run_pure,Result.andThen_ok,f],by simp[g],fun i x v d c=>?_,j⟩
  cases i with
  |zero=>simp at d c;subst d;subst c;simpa using b t
  |succ i=>exact n i x v (by simpa using d) (by simpa using c)
 |.cell p t::rest,K,h=>by
  obtain⟨v0,r,o,u,q⟩:=ZhI h (b p) k
  obtain⟨vs,xs,f,g,n,j⟩:=fY k b rest _ q
  refine⟨v0::vs,r::xs,?_,by simp[g],fun i x v d c=>?_,j⟩
  ·have:=ZqQ o
   have e:(N1 a.tmps (.cell p t)).run P w=.ok v0 w:=this
   simp only[QM,Sem.run_bind,e,Sem.run_pure,Result.andThen_ok,f]
  grind
def MX(l:Nat)(H:Hp)(m:Mu)(S:Nat→Prop):Nat→Prop:=fun b=>S b∨∃k:Ad,k.1=l+1∧(H k).live=true∧((m k).cap≠0∨(H k).e.isO=true)∧b=(m k).b
theorem Ok.fin(h:Ok (l+1) H m S w):Ok l H m (MX l H m S) w∧Ext l H m S w H m (MX l H m S) w:=by
 have n:Ext (l+1) H m S w H m (MX l H m S) w:=⟨fun _ h=>.inl h,fun _ _=>rfl,fun _ _=>Yf _,fun _ _ _ h=>⟨h,rfl,rfl⟩,rfl,rfl,rfl,Yf _⟩
 refine⟨⟨fun b c=>?_,fun q u=>h.empty q (by omega),fun q u hl g=>?_,fun q A u z=>h.inj q A (by omega) (by omega),fun q u hl g=>?_,
  ⟨fun k p j=>(h.mp.o k (by omega) j).mono (fun _ h=>.inl h) (fun _ _=>rfl) (fun _=>rfl),fun k p j he=>?_,fun k k' p s=>h.mp.i k k' (by omega) (by omega)⟩⟩,n.mono (by omega)⟩
 ·rcases c with c|⟨k,p,hl,g,rfl⟩
  ·exact h.sub b c
  ·rcases g with g|g
   ·obtain⟨C,c,_⟩:=h.blk k (by omega) hl g
    grind
   ·obtain⟨o,c,_⟩:=(h.mp.o k (by omega) hl).at g
    grind
 ·rintro(hs|⟨k,p,f,a,e⟩)
  ·exact h.fresh q (by omega) hl g hs
  ·rcases a with a|a
   ·have:=h.inj q k (by omega) (by omega) hl f g a e
    grind
   ·obtain⟨o,c,r⟩:=(h.mp.o k (by omega) f).at a
    obtain⟨C,d,_⟩:=h.blk q (by omega) hl g
    rw[e,c]at d;cases d;cases r
 ·obtain⟨C,c,hs,t,y⟩:=h.blk q (by omega) hl g
  exact⟨C,c,hs,t,fun i x v hi j=>⟨(y i x v hi j).1,(y i x v hi j).2.ext n (by omega)⟩⟩
 ·refine⟨(h.mp.c k (by omega) j he).1,?_⟩
  rintro(hs|⟨k',s,f,a,e⟩)
  ·exact(h.mp.c k (by omega) j he).2 hs
  ·rcases a with a|a
   ·obtain⟨o,c,r⟩:=(h.mp.o k (by omega) j).at he
    obtain⟨C,d,_⟩:=h.blk k' (by omega) f a
    rw[←e,c]at d;cases d;cases r
   ·have:=h.mp.i k k' (by omega) (by omega) j f he a e
    grind
theorem Fz.sound{x y:AV}(h:Fz H l x y)(Q:Ok (l+1) H m S w):∀{v:Value},RepA w S H m (l+1) x v→RepA w (MX l H m S) H m l y v:=by
 have u:Ext (l+1) H m S w H m (MX l H m S) w:=⟨fun _ h=>.inl h,fun _ _=>rfl,fun _ _=>Yf _,fun _ _ _ h=>⟨h,rfl,rfl⟩,rfl,rfl,rfl,Yf _⟩
 induction h with
 |keep x h=>exact fun b=>(b.ext u (Yf _)).low h
 |e0=>
  intro v b
  cases b with
  |e0 N=>exact(RepA.e0 N).e0_d
 |mp k a es I hl he=>
  intro v b
  generalize hg:(H k).g=g at b
  cases b with
  |mpD _ _ _ q G t p=>rw[t hg.symm]at hl;cases hl
  |mpL _ q r=>
   have U:=Q.mp.o k (by omega) hl
   rw[he]at U
   obtain⟨ents,B,p,O⟩:=U
   exact .d _ _ (.ofM (.inr ⟨k,I,hl,.inr (by rw[he];rfl),rfl⟩) p (O.mono (fun _ h=>.inl h) (fun _ _=>rfl)))
 |ref k off n es I hl J hz he o h z=>
  intro v b
  generalize hg:(H k).g=g at b
  cases b with
  |refD _ _ _ _ _ q G t p=>rw[t hg.symm]at hl;cases hl
  |refL _ _ _ N q r T R=>
   by_cases K:n=0
   ·subst K
    have:es=[]:=Ir J
    subst this
    cases N with
    |none=>
     have e:(m k).cap-off=0:=by
      rcases YH off (m k).cap with h|h
      ·have:=R h;cases this
      ·omega
     rw[e]
     exact .d _ _ .nil
    |some ad=>exact .d _ _ (.list [] ad 0 _ (fun _ _=>.bool true) (fun h=>absurd rfl h) (Ft _) (fun _ h=>by cases h) (fun i j e x h=>by simp at h) (fun i j e x h=>by simp at h))
   ·have L:=R (by omega)
    subst L
    obtain⟨F,C,p,O,Z,P⟩:=Q.row (k:=k) (by omega) hl (by
     intro e
     rw[e,YT]at o
     have:=QJ (show 0<n by omega) (show 0<(H k).sz by omega)
     simp at o
     omega)
    have s:∀(i j:Nat) (e:List D) (d:D),es[i]?=some e→e[j]?=some d→(off+i)*(H k).sz+j<(H k).cells.length:=by
     intro i j e d hi f
     have W:i<n:=by
      rw[←J]
      rcases YH i es.length with h|h
      ·exact h
      ·rw[YK h]at hi;cases hi
     have X:j<(H k).sz:=by
      rw[←he e (Yk hi)]
      rcases YH j e.length with h|h
      ·exact h
      ·rw[YK h]at f;cases f
     have:(off+i+1)*(H k).sz≤(off+n)*(H k).sz:=YY _ (by omega)
     rw[YT (off+i)]at this
     omega
    have:=RepD.list (w:=w) (S:=MX l H m S) es ⟨(m k).b,(m k).o+off*(H k).sz,none⟩ (H k).sz ((m k).cap-off) (fun i j=>(C[(m k).o+((off+i)*(H k).sz+j)]?).getD undef)
     (fun _=>.inr ⟨k,I,hl,.inl F,rfl⟩) (by omega) he
     (fun i j e d hi f=>by
      obtain⟨v,A,_,_⟩:=P _ _ (Ya (s i j e d hi f))
      rw[Addr.add_lit,GG p,A]
      rw[show(m k).o+off*(H k).sz+(i*(H k).sz+j)=(m k).o+((off+i)*(H k).sz+j)from by rw[YT];omega,A]
      rfl)
     (fun i j e d hi f=>by
      obtain⟨v,A,Y,V⟩:=P _ _ (Ya (s i j e d hi f))
      rw[A]
      have:=z i j e d _ hi f (Ya (s i j e d hi f)) V
      cases this with
      |d _ _ t=>exact t)
    rw[J]at this
    exact .d _ _ this
 |agg xs ys hl h z=>
  intro v b
  cases b with
  |agg _ vs r p E=>
   refine .agg _ _ (by omega) p (fun i y v hy M=>?_)
   have c:i<xs.length:=by
    rw[hl]
    rcases YH i ys.length with h|h
    ·exact h
    ·rw[YK h]at hy;cases hy
   exact z i _ y (Ya c) hy (E i _ v (Ya c) M)
 |tup xs ys hl h z=>
  intro v b
  cases b with
  |tup _ vs r E=>
   refine .tup _ _ (by omega) (fun i y v hy M=>?_)
   have c:i<xs.length:=by
    rw[hl]
    rcases YH i ys.length with h|h
    ·exact h
    ·rw[YK h]at hy;cases hy
   exact z i _ y (Ya c) hy (E i _ v (Ya c) M)
theorem Zj4{fn:Func}{KK:List AV→Prop}(j:Ok (l+1) H m S w)(k:C1 (l+1) s H m S a w)(h:EN P ⟨s,H⟩ fn.results.toList KK):
  ∃v xs,(results fn a.tmps).run P w=.ok v w∧RepA w S H m (l+1) (DL xs) v∧KK xs:=by
 obtain⟨vs,xs,d,c,b,g⟩:=fY j k _ _ h
 have o:∀f:ResultVar→Sem Value,(∀r,f r=N1 a.tmps r)→(fn.results.mapM f).run P w=.ok vs.toArray w:=by
  intro f n
  have:f=N1 a.tmps:=funext n
  subst this
  rw[oS]
  simp[d]
 refine⟨if h:vs.toArray.size=1 then vs.toArray[0]else .tuple vs.toArray,xs,?_,?_,g⟩
 ·unfold results
  simp only[Sem.run_bind]
  rw[o _ (fun r=>by cases r<;>rfl)]
  simp
 ·match xs,vs,c,b with
  |[x],[v],_,b=>exact b 0 x v rfl rfl
  |[],[],_,_=>exact .tup _ _ rfl (fun i x v h=>by simp[DL]at h)
  |x::x'::xs,v::t::vs,c,b=>
   have e:¬((v::t::vs).toArray.size=1):=by simp
   rw[dif_neg e]
   exact .tup _ _ (by simpa using c) (fun i x v q p=>b i x v q (by simpa using p))
theorem Zyg{P:Program}{f:FuncId}{fn:Func}{c:Code}{n l:Nat}{xs:List AV}{H:Hp}{s:AV→Hp→Prop}(hf:P.funcs[f]?=some fn)(hb:fn.body=some c)(G:(fn.name== "runtime.NumGoroutine")=false)
  (hn:fn.ntmps=n) (hx:xs.length≤n) (h:∀B:Base,BT P l n B c (ZXz P fn l H s) ⟨args xs,Ds l H⟩):ZcF P f l xs H s:=by
 refine⟨⟨fn,c,hf,hb,G⟩,fun m S w vs K j=>?_⟩
 have a:∀k:Ad,k.1≤l→Ds l H k=H k:=fun k g=>by unfold Ds;rw[Yg g]
 have hdead:∀k:Ad,¬k.1≤l→(Ds l H k).live=false:=fun k g=>by unfold Ds;rw[Yj g]
 have u:∀k:Ad,(Ds l H k).live=true→k.1≤l:=fun k hl=>by
  grind
 have X:Ok (l+1) (Ds l H) m S w:=by
  refine⟨K.sub,fun q d hl o=>?_,fun q d hl o=>?_,fun q M d I hl t o J heq=>?_,fun q d hl o=>?_,
   K.mp.stepL (fun q _ hl _=>by have:=u q hl;rw[a q this]at hl⊢;exact⟨this,hl,rfl,rfl⟩) (fun _ h=>h) (fun _ h=>.inl h) (fun _ _=>rfl) (fun _ _ h _=>h)⟩
  ·have:=u q hl;rw[a q this]at hl⊢;exact K.empty q this hl o
  ·have:=u q hl;rw[a q this]at hl;exact K.fresh q this hl o
  ·have e:=u q hl
   have e':=u M t
   rw[a q e]at hl;rw[a M e']at t
   exact K.inj q M e e' hl t o J heq
  ·have e:=u q hl
   rw[a q e]at hl⊢
   obtain⟨C,U,V,W,T⟩:=K.blk q e hl o
   exact⟨C,U,V,W,fun i x v hi O=>⟨(T i x v hi O).1,(T i x v hi O).2.agree (fun k g=>a k (by omega)) (fun _ _=>rfl)⟩⟩
 have hE:Ext l H m S w (Ds l H) m S w:=⟨fun _ h=>h,fun _ _=>rfl,fun k g=>by rw[a k g];exact Yf _,fun k g _ hl=>by rw[a k g]at hl⊢;exact⟨hl,rfl,rfl⟩,rfl,rfl,rfl,Yf _⟩
 have hR:R l n ⟨H,m,S,w⟩ ⟨args xs,Ds l H⟩ {tmps:=vs++Array.replicate (fn.ntmps-vs.size) undef,defers:=[] } w:=by
  refine⟨m,S,X,by simp[hn];rw[←j.1];omega,rfl,fun i=>?_,hE⟩
  simp only[args]
  cases hi:xs[i]? with
  |none=>exact .top _
  |some x=>
   have hlt:i<xs.length:=by
    grind
   have D:i<vs.size:=by rw[←j.1];exact hlt
   rw[Yz,NC D,Yp D]
   exact((j.2 i x _ hi (Yp D)).agree (fun k g=>a k g) (fun _ _=>rfl)).lvl (Nat.le_succ l)
 refine calls_of_wp hf hb (wp_mono (h ⟨H,m,S,w⟩ _ w hR) fun e a' w' ⟨σ',d,Y⟩=>?_)
 obtain⟨s',H'⟩:=σ'
 obtain⟨m',S',A,hn',hd',Z,N⟩:=Y.un
 have done:EN P ⟨s',H'⟩ fn.results.toList (fun xs=>∃y,Fz H' l (DL xs) y∧s y (Ia l H' H))→a'.defers=[]∧∃v,(results fn a'.tmps).run P w'=.ok v w'∧
   (∃r Q p E z,Ending.returned v=.returned Q∧s r p∧Ok l p E z w'∧RepA w' z p E l r Q∧Ext l H m S w p E z w'):=by
  intro hr
  obtain⟨v,xs,U,V,y,W,T⟩:=Zj4 A Z hr
  obtain⟨L,k2⟩:=A.fin
  have b:∀k:Ad,k.1≤l→Ia l H' H k=H' k:=fun k g=>by unfold Ia;rw[Yg g]
  refine⟨hd',v,U,y,v,Ia l H' H,m',_,rfl,T,?_,(W.sound A V).agree b (fun _ _=>rfl),?_⟩
  ·refine⟨L.sub,fun q d hl o=>?_,fun q d hl o=>?_,fun q M d I hl t o J heq=>?_,fun q d hl o=>?_,
    L.mp.step (Yf _) (fun q d hl _=>by rw[b q d]at hl⊢;exact⟨hl,rfl,rfl⟩) (fun _ h=>h) (fun _ h=>.inl h) (fun _ _=>rfl) (fun _ _ h _=>h)⟩
   ·rw[b q d]at hl⊢;exact L.empty q d hl o
   ·rw[b q d]at hl;exact L.fresh q d hl o
   ·rw[b q d]at hl;rw[b M I]at t;exact L.inj q M d I hl t o J heq
   ·rw[b q d]at hl⊢
    obtain⟨C,g1,g2,g3,g4⟩:=L.blk q d hl o
    exact⟨C,g1,g2,g3,fun i x v hi O=>⟨(g4 i x v hi O).1,(g4 i x v hi O).2.agree (fun k g=>b k (by omega)) (fun _ _=>rfl)⟩⟩
  ·have F:=Ext.trans (show Ext l H m S w H' m' S' w' from N) k2
   exact⟨F.s,F.blk,fun k g=>by rw[b k g];exact F.g k g,fun k g hg hl=>by rw[b k g]at hg hl⊢;exact F.live k g hg hl,F.os,F.tape,F.output,F.size⟩
 rcases d.1 with rfl|rfl
 ·exact done d.2
 ·exact done d.2
end
section
variable {P:Program} {l n:Nat} {ds:List (Option Nat)} {ops rest:List Oper} {K:St→Prop} {s:Nat→AV} {H:Hp} {d:Option Nat} {op:Op} {ty:TypeId} {ps:String} {af:Array Edge} {g:Option (Nat×Bool)}
variable {x y:Operand} {t:TypeId}
theorem mR{l:Nat}{H:Hp}{k:Ad}(h:k.1≤l):Ds l H k=H k:=by unfold Ds;rw[Yg h]
theorem ZHw{l:Nat}{H:Hp}{i:Nat}:Ds l H (l+1,i)=⟨0,false,0,0,[]⟩:=by unfold Ds;rw[Yj (by simp)]
end
def B5(o:Oper):Bool:=o.dst.isSome&&match o.op with
 |.call c=>match c.callee with
  |.value _=>true
  |.builtin .len|.builtin .min|.builtin .max=>true
  |_=>false
 |.binOp _ _ _ y _=>!I0 y
 |.alloc _|.box _ _|.store _ _ _|.buildSlice _ _ _|.makeSlice _ _ _|.makeMap _ _|.range _ _|.next _ _|.entry _=>false
 |_=>true
def cJ(o:Oper):Bool:=match o.op with
 |.buildSlice _ (_+1) _=>true
 |_=>false
def C9(o:Oper):Bool:=B5 o||(o.dst.isSome&&cJ o)
def z7(P:Program)(t:TypeId)(len:Nat)(ps:List (Nat×AV))(v:AV):Prop:=
 ∃e sz z es,elm P t=some (e,sz)∧sz≠0∧(len+1)*sz≤16777216∧zer P e=some z∧z.length=sz∧FZ sz 0 ps=some es∧es.length=len+1∧v=.d (.list es)
def qV(P:Program)(l:Nat)(H:Hp)(o:Oper)(ρ:Operand→AV)(v:AV):Prop:=
 match o.op with
 |.buildSlice t (len+1) parts=>z7 P t len (parts.toList.map fun p=>(p.1,ρ p.2)) v
 |.call c=>match c.callee with
  |.value f=>match ρ f with
   |.fn (.func g) first a=>ZcF P g (l+1) (first++c.args.toList.map ρ++a) H (fun y b=>y=v∧b=H)
   |_=>False
  |_=>A9 P H o.op ρ (fun y=>y=v)
 |_=>A9 P H o.op ρ (fun y=>y=v)
def FR(P:Program)(l n:Nat)(o:Oper)(K:St→Prop)(σ:St):Prop:=
 match o.op with
 |.buildSlice t (len+1) parts=>∃v,z7 P t len (parts.toList.map fun p=>(p.1,ev σ.s p.2)) v∧CL n o.dst K σ v
 |.call c=>match c.callee with
  |.value f=>match ev σ.s f with
   |.fn (.func g) first a=>∃r,ZcF P g (l+1) (first++c.args.toList.map (ev σ.s)++a) σ.H (fun y b=>y=r∧b=σ.H)∧CL n o.dst K σ r
   |_=>False
  |_=>BI P l n o K σ
 |_=>BI P l n o K σ
def D7(P:Program)(l n:Nat)(ds:List (Option Nat)):List Oper→(St→Prop)→St→Prop
 |[],K,σ=>K σ
 |o::rest,K,σ=>match o.guard with
  |none=>FR P l n o (D7 P l n ds rest K) σ
  |some (i,b)=>match H8 σ.s ds i b with
   |some t=>(t=true→FR P l n o (D7 P l n ds rest K) σ)∧(t=false→match o.dst with|some d=>d<n∧D7 P l n ds rest K ⟨upd σ.s d (.tup []),σ.H⟩|none=>False)
   |none=>False
section
variable {P:Program} {l n:Nat} {B:Base} {H:Hp} {K K':AV→Prop} {t:TypeId} {x y:AV} {ρ ρ':Operand→AV}
theorem Zlp{op:BinOp}{k:IntKind}{a b:Int}(h:∀v,K v→K' v)(c:Gn op k a b K):Gn op k a b K':=by
 cases op<;>simp only[Gn]at c⊢<;>first|exact h _ c|exact⟨c.1,h _ c.2⟩|exact c
theorem Zls{op:BinOp}{a b:ByteArray}(h:∀v,K v→K' v)(c:Gp op a b K):Gp op a b K':=by
 cases op<;>simp only[Gp]at c⊢<;>first|exact h _ c|exact⟨c.1,h _ c.2⟩|exact c
theorem ZzS{op:BinOp}{k:IntKind}{a b:Int}(c:Gn op k a b K):∃v,Gn op k a b (fun y=>y=v)∧K v:=by
 cases op<;>simp only[Gn]at c⊢<;>first|exact⟨_,rfl,c⟩|exact⟨_,⟨c.1,rfl⟩,c.2⟩|exact c.elim
theorem ZAT{op:BinOp}{a b:ByteArray}(c:Gp op a b K):∃v,Gp op a b (fun y=>y=v)∧K v:=by
 cases op<;>simp only[Gp]at c⊢<;>first|exact⟨_,rfl,c⟩|exact⟨_,⟨c.1,rfl⟩,c.2⟩|exact c.elim
theorem Zsr(h:EI P H t x K):∃v,EI P H t x (fun y=>y=v)∧K v:=by
 unfold EI at h⊢
 split at h
 ·grind
 ·grind
 grind
theorem ZiG{i:Nat}(h:E2 P H t i x K):∃v,E2 P H t i x (fun y=>y=v)∧K v:=by
 unfold E2 at h⊢
 grind
theorem Zp1{i:Nat}(h:Fe P t i x K):∃v,Fe P t i x (fun y=>y=v)∧K v:=by
 unfold Fe at h⊢
 split at h
 ·split at h
  ·grind
  grind
 grind
theorem ZiH(h:EB P H t x y K):∃v,EB P H t x y (fun y=>y=v)∧K v:=by
 unfold EB at h⊢
 grind
theorem ZqK(h:FC P t x y K):∃v,FC P t x y (fun y=>y=v)∧K v:=by
 unfold FC at h⊢
 grind
theorem ZBf{op:BinOp}{xs ys:List AV}(h:GW P op t xs ys K):∃v,GW P op t xs ys (fun y=>y=v)∧K v:=by
 unfold GW at h⊢
 split at h
 ·grind
 grind
theorem Zzd{op:BinOp}(h:CR P H op t false x y K):∃v,CR P H op t false x y (fun y=>y=v)∧K v:=by
 unfold CR at h⊢
 split at h
 ·obtain⟨v,a,b⟩:=ZzS h.2;exact⟨v,⟨h.1,a⟩,b⟩
 ·exact ZAT h
 ·grind
 ·exact ZBf h
 ·cases h.1
 grind
theorem ZJy{op:UnOp}(h:ET op x K):∃v,ET op x (fun y=>y=v)∧K v:=by
 unfold ET at h⊢
 grind
theorem Ztm{u:TypeId}(h:Ff P t u x K):∃v,Ff P t u x (fun y=>y=v)∧K v:=by
 unfold Ff at h⊢
 grind
theorem Zp4{lo hi:Option AV}{a:Bool}(h:ED P H t x lo hi a K):∃v,ED P H t x lo hi a (fun y=>y=v)∧K v:=by
 unfold ED at h⊢
 grind
theorem ZAU(h:D6 P H t x K):∃v,D6 P H t x (fun y=>y=v)∧K v:=by
 unfold D6 at h⊢
 grind
theorem Zp7{ps:List (Nat×AV)}(h:FD P t ps K):∃v,FD P t ps (fun y=>y=v)∧K v:=by
 unfold FD at h⊢
 grind
theorem ZMA{op:Op}(g:∀o t x y u,op=.binOp o t x y u→I0 y=false)(h:A9 P H op ρ K):∃v,A9 P H op ρ (fun y=>y=v)∧K v:=by
 cases op<;>simp only[A9]at h⊢<;>try exact h.elim
 case move x=>exact⟨_,rfl,h⟩
 case assign x=>exact⟨_,rfl,h⟩
 case pick c a b=>
  split at h
  ·grind
  ·grind
 case load=>exact Zsr h
 case fieldAddr=>exact ZiG h
 case field=>exact Zp1 h
 case indexAddr=>exact ZiH h
 case index=>exact ZqK h
 case extract=>
  split at h
  ·grind
  ·grind
 case binOp o t x y u=>
  rw[g _ _ _ _ _ rfl]at h⊢
  exact Zzd h
 case unOp=>exact ZJy h
 case convert=>exact Ztm h
 case nilCheck=>
  unfold Iy at h⊢
  split at h
  ·grind
  ·grind
  ·grind
 case makeFunc=>exact⟨_,rfl,h⟩
 case makeInterface=>
  obtain⟨d,h⟩:=h
  repeat' split at h
  all_goals first|exact h.elim|exact⟨_,⟨d,rfl⟩,h⟩
 case typeAssert=>
  obtain⟨d,h⟩:=h
  repeat' split at h
  all_goals first|exact h.elim|exact⟨_,⟨d,h.1,rfl⟩,h.2⟩
 case slice=>exact Zp4 h
 case build=>exact Zp7 h
 case lookup=>exact Zrr h
 case call c=>
  split at h
  ·obtain⟨v,e,f⟩:=ZAU h.2;exact⟨v,⟨h.1,e⟩,f⟩
  ·split at h
   ·unfold Ey at h⊢
    grind
   ·unfold GY at h⊢
    grind
   grind
  ·grind
theorem ZpH{op:Op}(e:∀o t x y u,op=.binOp o t x y u→I0 y=false){v:AV}(d:K v)(h:A9 P H op ρ (fun y=>y=v)):A9 P H op ρ K:=by
 have:(fun y=>y=v)=(fun y=>y=v∧K v):=by funext y;simp[d]
 rw[this]at h
 clear this d
 cases op<;>simp only[A9]at h⊢<;>try exact h.elim
 case move x=>exact h.1▸h.2
 case assign x=>exact h.1▸h.2
 case pick c a b=>
  split at h
  ·grind
  ·grind
 case load t x=>
  unfold EI at h⊢
  split at h
  ·grind
  ·grind
  ·grind
 case fieldAddr=>
  unfold E2 at h⊢
  split at h
  ·grind
  ·grind
  ·grind
 case field=>
  unfold Fe at h⊢
  split at h
  ·split at h
   ·grind
   grind
  ·grind
 case indexAddr=>
  unfold EB at h⊢
  split at h
  ·grind
  ·grind
  ·grind
 case index=>
  unfold FC at h⊢
  split at h
  ·grind
  ·grind
 case makeInterface=>
  refine⟨h.1,?_⟩
  replace h:=h.2
  repeat' split at h
  all_goals first|exact h.elim|exact h.1▸h.2
 case typeAssert=>
  refine⟨h.1,?_⟩
  replace h:=h.2
  repeat' split at h
  all_goals first|exact h.elim|exact⟨h.1,h.2.1▸h.2.2⟩
 case extract=>
  split at h
  ·grind
  ·grind
 case binOp o t x y u=>
  rw[e _ _ _ _ _ rfl]at h⊢
  unfold CR at h⊢
  split at h
  ·exact⟨h.1,Zlp (fun y (hy:y=v∧K v)=>hy.1▸hy.2) h.2⟩
  ·exact Zls (fun y (hy:y=v∧K v)=>hy.1▸hy.2) h
  ·grind
  ·unfold GW at h⊢
   split at h
   ·split at h
    ·grind
    grind
   grind
  ·cases h.1
  ·grind
 case unOp=>
  unfold ET at h⊢
  split at h<;>grind
 case nilCheck=>
  unfold Iy at h⊢
  split at h
  ·grind
  ·grind
  ·grind
 case convert=>
  unfold Ff at h⊢
  split at h
  ·grind
  ·grind
  ·grind
 case makeFunc=>exact h.1▸h.2
 case slice=>
  unfold ED at h⊢
  split at h
  ·grind
  ·grind
  ·grind
  ·grind
 case build=>
  unfold FD at h⊢
  split at h
  ·grind
  ·grind
 case lookup=>exact ZlP (fun y (hy:y=v∧K v)=>hy.1▸hy.2) h
 case call c=>
  split at h
  ·refine⟨h.1,?_⟩
   replace h:=h.2
   unfold D6 at h⊢
   grind
  ·split at h
   ·unfold Ey at h⊢
    grind
   ·unfold GY at h⊢
    grind
   grind
  ·grind
theorem gO{o:Oper}(h:C9 o=true)(a:∀t len ps,o.op=.buildSlice t (len+1) ps→False):B5 o=true:=by
 unfold C9 at h
 rw[YF]at h
 rcases h with h|h
 ·exact h
 ·exfalso
  unfold cJ at h
  split at h
  ·rename_i e;exact a _ _ _ e
  ·simp at h
theorem gx{o:Oper}(a:C9 o=true):∀b t x y u,o.op=.binOp b t x y u→I0 y=false:=by
 intro b t x y u h
 simp only[C9,cJ,B5,h,XP,XQ,Yc,YN]at a
 exact a.2
theorem Zpq{o:Oper}{v:AV}(h:∀x∈o.op.operands,ρ x=ρ' x)(a:qV P l H o ρ v):qV P l H o ρ' v:=by
 obtain⟨q,op,type,pos,after,guard⟩:=o
 have d:∀i:Array Operand,(∀x∈i,ρ x=ρ' x)→i.toList.map ρ=i.toList.map ρ':=fun i k=>Y9 fun x e=>k x (by simpa using e)
 cases op<;>simp only[Op.operands]at h<;>simp only[qV,A9]at a⊢<;>try exact a
 case call c=>
  have k:c.args.toList.map ρ=c.args.toList.map ρ':=d _ fun x e=>h x (by simp[Call.operands,e])
  cases j:c.callee with
  |value f=>
   have z:ρ f=ρ' f:=h f (by simp[Call.operands,j])
   grind
  |invoke r m=>simp only[j]at a
  |builtin b=>
   simp only[j]at a⊢
   split at a
   ·rename_i x t y s w
    rw[←h x (by simp[Call.operands,j,oV s])]
    exact a
   ·grind
   grind
 case build t ps=>
  have:(ps.toList.map fun p=>(p.1,ρ p.2))=ps.toList.map fun p=>(p.1,ρ' p.2):=Y9 fun p u=>by
   grind
  rw[←this];exact a
 case buildSlice t n ps=>
  cases n with
  |zero=>exact a
  |succ n=>
   have:(ps.toList.map fun p=>(p.1,ρ p.2))=ps.toList.map fun p=>(p.1,ρ' p.2):=Y9 fun p u=>by
    grind
   simp only at a⊢
   rw[←this];exact a
 case makeFunc fn first g=>
  rw[←d first fun x e=>h x (by simp[e]),←d g fun x e=>h x (by simp[e])];exact a
 case slice t x lo hi A=>
  rw[←h x (by simp),show lo.map ρ'=lo.map ρ from by cases lo<;>simp_all,show hi.map ρ'=hi.map ρ from by cases hi<;>simp_all];exact a
 all_goals(first|(simp_all;done))
theorem Zpm{o:Oper}{s:Nat→AV}{K:St→Prop}(a:C9 o=true)(h:FR P l n o K ⟨s,H⟩):∃d v,o.dst=some d∧d<n∧qV P l H o (ev s) v∧K ⟨upd s d v,H⟩:=by
 have m:∃d,o.dst=some d:=by
  have:o.dst.isSome=true:=by
   unfold C9 B5 at a
   rw[YF,Yc,Yc]at a
   rcases a with h|h
   ·exact h.1
   ·exact h.1
  exact F6.1 this
 obtain⟨d,m⟩:=m
 have i:A9 P H o.op (ev s) (CL n o.dst K ⟨s,H⟩)→(∀v,A9 P H o.op (ev s) (fun y=>y=v)→qV P l H o (ev s) v)→∃d v,o.dst=some d∧d<n∧qV P l H o (ev s) v∧K ⟨upd s d v,H⟩:=fun h p=>by
  obtain⟨v,q,b⟩:=ZMA (gx a) h
  rw[m]at b
  exact⟨d,v,m,b.1,p v q,b.2⟩
 unfold FR at h
 split at h
 ·rename_i z
  obtain⟨v,q,b⟩:=h
  rw[m]at b
  refine⟨d,v,m,b.1,?_,b.2⟩
  unfold qV
  rw[z]
  exact q
 ·rename_i c j
  replace a:B5 o=true:=gO a fun t n ps e=>by rw[j]at e;cases e
  split at h
  ·rename_i f w
   simp only[]at h
   split at h
   ·rename_i g first A hg
    obtain⟨r,q,b⟩:=h
    rw[m]at b
    refine⟨d,r,m,b.1,?_,b.2⟩
    simp only[qV,j,w,hg]
    exact q
   ·exact h.elim
  ·rename_i w
   refine i ?_ ?_
   ·unfold BI at h
    simp only[j]at h
    simp only[B5,j,Yc]at a
    split at h
    ·rename_i f x;exact absurd x (w f)
    ·rename_i u;rw[u]at a;simp at a
    ·rw[j];exact h
   ·intro v p
    unfold qV
    rw[j]at p⊢
    cases k:c.callee with
    |value f=>exact absurd k (w f)
    |_=>simpa[k]using p
 ·rename_i u j
  replace a:B5 o=true:=gO a fun t n ps e=>u _ _ _ e
  refine i ?_ ?_
  ·unfold BI at h
   split at h
   ·rename_i he;simp[B5,he]at a
   ·rename_i he;simp[B5,he]at a
   ·rename_i he;simp[B5,he]at a
   ·rename_i he;simp[B5,he]at a
   ·rename_i he;simp[B5,he]at a
   ·rename_i c he;exact absurd he (j c)
   ·exact h
  ·intro v p
   unfold qV
   split
   ·rename_i he;exact absurd he (u _ _ _)
   ·rename_i c he;exact absurd he (j c)
   ·exact p
theorem ZS2{o:Oper}{s:Nat→AV}{v:AV}{d:Nat}(q:C9 o=true)(b:o.dst=some d)(a:d<n)(h:qV P l H o (ev s) v):Ca P l n B o (fun D=>D=⟨upd s d v,H⟩) ⟨s,H⟩:=by
 unfold qV at h
 split at h
 ·rename_i t len parts k
  obtain⟨e,sz,z,es,i,j,u,w,x,y,A,rfl⟩:=h
  exact ZgO k b i j u w x y A a rfl
 ·rename_i c C
  split at h
  ·rename_i f p
   split at h
   ·rename_i g first m hg
    refine Zpt C p hg (h.mono fun r E ⟨i,j⟩=>?_)
    subst i;subst j
    rw[b]
    exact⟨a,rfl⟩
   grind
  ·rename_i p
   exact Uq (ZpH (gx q) (by rw[b];exact⟨a,rfl⟩) h)
 ·exact Uq (ZpH (gx q) (by rw[b];exact⟨a,rfl⟩) h)
end
section
variable {P:Program} {l n:Nat} {B:Base} {H:Hp} {ops:Array Oper} {md:Region.Mode} {Q:(Nat→AV)→Prop}
def YA(P:Program)(l:Nat)(H:Hp)(ops:Array Oper)(o:Oper)(s:Nat→AV)(v:AV):Prop:=
 match o.guard with
 |none=>qV P l H o (ev s) v
 |some (i,b)=>match H8 s (ops.toList.map (·.dst)) i b with
  |some t=>(t=true→qV P l H o (ev s) v)∧(t=false→v=.tup [])
  |none=>False
theorem ta{o:Oper}{s:Nat→AV}{v u:AV}{d:Nat}(j:d∉o.looksAt ops)(h:YA P l H ops o (upd s d u) v):YA P l H ops o s v:=by
 have f:∀x∈o.op.operands,ev (upd s d u) x=ev s x:=fun x n=>by
  cases x with
  |tmp t=>
   have c:t≠d:=fun e=>j (by
    subst e
    exact Jp _ (List.mem_filterMap.2 ⟨.tmp t,by simpa using n,rfl⟩))
   simp[ev,upd,c]
  |_=>rfl
 unfold YA at*
 cases hg:o.guard with
 |none=>simp only[hg]at h⊢;exact Zpq f h
 |some k=>
  obtain⟨i,b⟩:=k
  simp only[hg]at h⊢
  have g:H8 (upd s d u) (ops.toList.map (·.dst)) i b=H8 s (ops.toList.map (·.dst)) i b:=by
   unfold H8
   simp only[YL,Yr]
   cases m:ops[i]? with
   |none=>rfl
   |some p=>
    cases a:p.dst with
    |none=>simp[a]
    |some t=>
     have c:t≠d:=fun e=>j (by subst e;simp[Oper.looksAt,hg,m,a])
     simp[a,upd,c]
  rw[g]at h
  split at h
  ·rename_i t q
   exact⟨fun e=>Zpq f (h.1 e),h.2⟩
  ·exact h
theorem ZLi{o:Oper}{s:Nat→AV}{v u:AV}{d:Nat}(a:d∉o.looksAt ops)(h:YA P l H ops o s v):YA P l H ops o (upd s d u) v:=by
 refine ta (d:=d) (u:=s d) a ?_
 have:upd (upd s d u) d (s d)=s:=by funext j;unfold upd;split<;>simp_all
 grind
theorem ZAf{s:Nat→AV}{d e:Nat}{u v:AV}(h:d≠e):upd (upd s d u) e v=upd (upd s e v) d u:=by
 funext j
 unfold upd
 grind
end
def LV(P:Program)(t:TypeId)(i:Nat):Option (Nat×Nat×Bool):=
 match P.underlying t with
 |some (.struct a)=>(a[i]?).bind fun f=>(DR P f.type).map fun b=>(f.offset,P.cellsOf f.type,b)
 |_=>none
def N2(o:Option (Nat×Nat×Bool))(x:AV)(K:AV→Prop):Prop:=
 match o,x with
 |some (o,n,true),.agg cs=>n≠0∧K (.agg ((cs.drop o).take n))
 |some (o,_,false),.agg cs=>(match cs[o]? with|some c=>K c|none=>False)
 |_,_=>False
theorem ZtN{P:Program}{t:TypeId}{i:Nat}{x:AV}{K:AV→Prop}:Fe P t i x K=N2 (LV P t i) x K:=by
 unfold Fe LV
 cases x with
 |agg cs=>
  cases j:P.underlying t with
  |none=>rfl
  |some d=>
   cases d with
   |struct a=>
    simp only
    cases g:a[i]? with
    |none=>rfl
    |some f=>
     simp only[Ye]
     cases c:DR P f.type with
     |none=>rfl
     |some b=>cases b<;>rfl
   |_=>rfl
 |_=>
  have e:∀(o:Option (Nat×Nat×Bool)) (y:AV),(∀cs,y≠.agg cs)→N2 o y K=False:=fun o y h=>by
   unfold N2
   grind
  grind
structure fins (P:Program) (l:Nat) (H:Hp) (rs:List ResultVar) (Post:AV→Hp→Prop) (e:Exit) (σ:St):Prop where
 he:e=.normal∨e=.ret
 hy:EN P σ rs (fun xs=>∃y,Fz σ.H l (DL xs) y∧Post y (Ia l σ.H H))
inductive Fit:D→Prop
 |int (k:IntKind) (n:Int):Fit (.int k n)
 |bool (b:Bool):Fit (.bool b)
 |str (s:ByteArray) (h:s.size<2147483648):Fit (.str s)
 |list (es:List (List D)) (hl:es.length<2147483648) (h:∀e∈es,∀x∈e,Fit x):Fit (.list es)
def JB(l:List D):Prop:=∀d∈l,Fit d
theorem Fit.len{α:Type}{e:α→List D}{xs:List α}(h:Fit (.list (xs.map e))):xs.length<2147483648:=by
 cases h with|list _ hl h=>simpa using hl
theorem Fit.mem{α:Type}{e:α→List D}{xs:List α}(h:Fit (.list (xs.map e))){x:α}(a:x∈xs):JB (e x):=by
 cases h with|list _ hl h=>exact h _ (NA a)
theorem Fit.el{α:Type}{e:α→List D}{xs:List α}(h:Fit (.list (xs.map e))){i:Nat}{x:α}(a:xs[i]?=some x):JB (e x):=h.mem (Yk a)
theorem JB.at{l:List D}(h:JB l)(i:Nat){d:D}(hi:l[i]?=some d):Fit d:=h d (Yk hi)
theorem JB.sub{l:List D}(h:JB l)(i n:Nat){m:List D}(hi:(l.drop i).take n=m):JB m:=by
 subst hi
 exact fun d a=>h d (Nz (XN a))
def nrm:AV→AV
 |.e0=>.d (.list [])
 |.agg xs=>.agg (xs.map fun x=>match x with|.e0=>.d (.list [])|x=>x)
 |x=>x
section
variable {P:Program} {l n:Nat} {B:Base} {H H':Hp} {K:St→Prop} {σ σ':St} {Q:Exit→St→Prop} {s:Nat→AV} {ds:List (Option Nat)} {d:Option Nat} {op:Op} {ty:TypeId} {ps:String} {af:Array Edge} {rest:List Oper}
 {g:Option (Nat×Bool)} {x y:Operand} {t:TypeId}
theorem gG{a b:Code}(h:BT P l n B a (vn (BT P l n B b Q) Q) σ):BT P l n B (.seq a b) Q σ:=ZK1 fun _ c=>Hz h fun e σ' h=>by
 cases e<;>first|exact c σ' h|exact h
theorem gK{a:Int}{i:Nat}(h:a=(i:Int))(hi:i<9223372036854775808):IntKind.wrap .i64 a=(i:Int):=by
 subst h
 exact IntWalk.i64_in _ ⟨by omega,by omega⟩
theorem ZzU{f:FuncId}{fn:Func}(g:List ResultVar){c:Code}{xs:List AV}{a:AV→Hp→Prop}(j:P.funcs[f]?=some fn)(i:fn.body=some c)(b:(fn.name== "runtime.NumGoroutine")=false)
  (k:fn.ntmps=n) (m:fn.results.toList=g) (o:xs.length≤n) (h:∀B:Base,BT P l n B c (fins P l H g a) ⟨args xs,Ds l H⟩):ZcF P f l xs H a:=by
 refine Zyg j i b k o fun B=>Hz (h B) fun e σ d=>?_
 unfold ZXz
 rw[m]
 exact⟨d.he,d.hy⟩
theorem Fz.data{xs:List D}:Fz H' l (.agg (xs.map .d)) (.agg (xs.map .d)):=
 .agg _ _ rfl fun i x y a hy=>by
  rw[a]at hy;cases hy
  rw[YL]at a
  cases hi:xs[i]? with
  |none=>rw[hi]at a;cases a
  |some d=>rw[hi]at a;cases a;exact .keep _ rfl
theorem Fz.pure{xs:List AV}{ds:List D}(h:CX xs=some ds):Fz H' l (.agg xs) (.agg (ds.map .d)):=
 .agg _ _ (by rw[YC];exact gi h) fun i x y a hy=>by
  rw[YL]at hy
  cases hi:ds[i]? with
  |none=>rw[hi]at hy;cases hy
  |some d=>
   rw[hi]at hy;cases hy
   have:=Zo7 h a hi
   cases x<;>simp only[D2]at this<;>cases this
   ·exact .keep _ rfl
   ·exact .e0
theorem Fz.d'{x:AV}{y:D}(h:x=.d y):Fz H' l x (.d y):=by subst h;exact .keep _ rfl
theorem Fz.two{x y x' e:AV}(f:Fz H' l x x')(hy:Fz H' l y e):Fz H' l (DL [x,y]) (.tup [x',e]):=
 .tup _ _ rfl fun i a b c d=>by
  match i with
  |0=>cases c;cases d;exact f
  |1=>cases c;cases d;exact hy
  |i+2=>simp at c
theorem Fz.one{x x':AV}(a:Fz H' l x x'):Fz H' l (DL [x]) x':=a
theorem RepA.nrm{S:Nat→Prop}{m:Mu}{w:World}{x:AV}{v:Value}(h:RepA w S H m l x v):RepA w S H m l (nrm x) v:=by
 cases x with
 |e0=>exact h.e0_d
 |agg xs=>
  cases h with
  |agg _ vs c a h=>
   refine .agg _ _ (by simpa using c) a (fun i y v hy b=>?_)
   rw[YL]at hy
   cases hi:xs[i]? with
   |none=>rw[hi]at hy;cases hy
   |some x=>
    rw[hi]at hy
    simp only[YZ,Yi]at hy
    subst hy
    have:=h i x v hi b
    split
    ·exact this.e0_d
    grind
 |_=>exact h
theorem ZcF.nrm{f:FuncId}{xs:List AV}{a:AV→Hp→Prop}(h:ZcF P f l (xs.map nrm) H a):ZcF P f l xs H a:=
 ⟨h.1,fun m S w vs d c=>h.2 m S w vs d ⟨by simpa using c.1,fun i x v b e=>by
  rw[YL]at b
  cases hi:xs[i]? with
  |none=>rw[hi]at b;cases b
  |some y=>
   rw[hi]at b
   simp only[YZ,Yi]at b
   subst b
   exact(c.2 i y v hi e).nrm⟩⟩
end
def Pk:List Operand→List Nat
 |[]=>[]
 |.tmp t::r=>t::Pk r
 |_::r=>Pk r
def L1:List (Option Nat)→Nat→Option Nat
 |[],_=>none
 |x::_,0=>x
 |_::r,i+1=>L1 r i
def FI(ds:List (Option Nat))(o:Oper):List Nat:=
 Pk o.op.operands.toList++match o.guard with
  |some (g,_)=>(match L1 ds g with|some d=>[d]|none=>[])
  |none=>[]
def FF:List (Nat×Nat)→Nat→Option Nat
 |[],_=>none
 |(d,k)::r,t=>match Nat.beq d t with|true=>some k|false=>FF r t
def Cf(o:Oper)(i:Nat):Bool:=o.after.toList.any fun e=>Region.binds .any e&&Nat.beq e.on i
def clear(o:Oper)(d:Nat):List (Nat×Nat)→Bool
 |[]=>true
 |(t,i)::r=>(match Nat.beq t d with|true=>Cf o i|false=>true)&&clear o d r
theorem Zoj{o:Oper}{d i:Nat}:∀{l:List (Nat×Nat)},clear o d l=true→(d,i)∈l→Cf o i=true
 |[],_,h=>by cases h
 |(t,j)::r,a,h=>by
  simp only[clear,Yc]at a
  rcases YG.1 h with h|h
  ·cases h
   have:=a.1
   rw[QN]at this
   exact this
  ·exact Zoj a.2 h
def MT(ds:List (Option Nat)):Nat→List (Nat×Nat)→List (Nat×Nat)→List Oper→Bool
 |_,_,_,[]=>true
 |k,seen,a,o::r=>
  (o.after.toList.all fun e=>!Region.binds .any e||Nat.ble (e.on+1) k)&&
  ((FI ds o).all fun t=>match FF seen t with|some i=>Cf o i|none=>true)&&
  match o.dst with
  |some d=>(FF seen d).isNone&&clear o d a&&MT ds (k+1) ((d,k)::seen) ((FI ds o).map (·,k)++a) r
  |none=>MT ds (k+1) seen ((FI ds o).map (·,k)++a) r
def VS:List Oper→Bool
 |[]=>true
 |o::r=>(match o.op with|.select _ _=>false|_=>true)&&VS r
def WN(ops:List Oper):Bool:=VS ops&&MT (ops.map (·.dst)) 0 [] [] ops
theorem ZtI(xs:List Operand):Pk xs=xs.filterMap fun|.tmp t=>some t|_=>none:=by
 induction xs with
 |nil=>rfl
 |cons x xs a=>cases x<;>simp[Pk,a]
theorem Zro:∀(ds:List (Option Nat)) (i:Nat),L1 ds i=(ds[i]?).join
 |[],i=>by simp[L1]
 |x::r,0=>by simp[L1]
 |x::r,i+1=>by simp[L1,Zro r i]
theorem Zpi(ops:List Oper)(o:Oper):FI (ops.map (·.dst)) o=o.looksAt ops.toArray:=by
 unfold FI Oper.looksAt
 rw[ZtI]
 congr 1
 cases hg:o.guard with
 |none=>rfl
 |some a=>
  obtain⟨g,b⟩:=a
  simp only
  rw[Zro,YL]
  simp only[QR]
  cases ops[g]? with
  |none=>rfl
  |some c=>simp only[YZ,Option.join_some,Ye];cases c.dst<;>rfl
structure FInv (ds:List (Option Nat)) (pre:List Oper) (seen:List (Nat×Nat)) (looked:List (Nat×Nat)):Prop where
 s1:∀d i,FF seen d=some i→∃o,pre[i]?=some o∧o.dst=some d
 s2:∀(i:Nat) (o:Oper) (d:Nat),pre[i]?=some o→o.dst=some d→FF seen d=some i
 lo:∀(i:Nat) (o:Oper),pre[i]?=some o→∀t∈FI ds o,(t,i)∈looked
def Vc(ds:List (Option Nat))(x y:Oper):Prop:=(∀d,x.dst=some d→d∉FI ds y∧y.dst≠some d)∧(∀d,y.dst=some d→d∉FI ds x)
theorem Zit(ds:List (Option Nat)):∀(rest pre:List Oper) (seen c:List (Nat×Nat)),FInv ds pre seen c→MT ds pre.length seen c rest=true→
  ∀(j:Nat) (p:Oper),rest[j]?=some p→(∀e∈p.after,Region.binds .any e=true→e.on<pre.length+j)∧
   ∀(i:Nat) (n:Oper),i<pre.length+j→(pre++rest)[i]?=some n→Cf p i=true∨Vc ds n p
 |[],pre,seen,c,u,h,j,p,A=>by simp at A
 |o::r,pre,seen,c,u,h,j,p,A=>by
  simp only[MT,Yc]at h
  obtain⟨⟨F,G⟩,s⟩:=h
  cases j with
  |zero=>
   simp only[Y7,Yi]at A
   subst A
   refine⟨fun e he C=>?_,fun i n hi g=>?_⟩
   ·have:=Yq.1 F e (by simpa using he)
    simp only[C,Y5,Jn]at this
    have:=Yh this
    omega
   ·rw[Yn (by omega)]at g
    by_cases z:Cf o i=true
    ·exact .inl z
    ·right
     refine⟨fun d v=>⟨fun hm=>?_,fun k=>?_⟩,fun d v hm=>?_⟩
     ·have:=Yq.1 G d hm
      rw[u.s2 i n d g v]at this
      exact z this
     ·rw[k]at s
      simp only[Yc]at s
      have:=s.1.1
      rw[u.s2 i n d g v]at this
      cases this
     ·rw[v]at s
      simp only[Yc]at s
      exact z (Zoj s.1.2 (u.lo i n g d hm))
  |succ j=>
   simp only[Ju]at A
   have q:∀(f:List (Nat×Nat)),(∀d i,FF f d=some i→∃m,(pre++[o])[i]?=some m∧m.dst=some d)→(∀(i:Nat) (m:Oper) (d:Nat),(pre++[o])[i]?=some m→m.dst=some d→FF f d=some i)→
     FInv ds (pre++[o]) f ((FI ds o).map (·,pre.length)++c):=fun f a b=>⟨a,b,fun i m g t E=>by
    rcases QW i pre.length with l|heq|AP
    ·rw[Yn l]at g;exact List.mem_append_right _ (u.lo i m g t E)
    ·subst heq;simp at g;subst g;exact Jp _ (YI.2 ⟨t,E,rfl⟩)
    ·rw[YK (by simp;omega)]at g;cases g⟩
   have fin:∀f,FInv ds (pre++[o]) f ((FI ds o).map (·,pre.length)++c)→MT ds (pre.length+1) f ((FI ds o).map (·,pre.length)++c) r=true→_:=fun f B hg=>
    Zit ds r (pre++[o]) f ((FI ds o).map (·,pre.length)++c) B (by simpa using hg) j p A
   have conv:(∀e∈p.after,Region.binds .any e=true→e.on<(pre++[o]).length+j)∧(∀(i:Nat) (n:Oper),i<(pre++[o]).length+j→(pre++[o]++r)[i]?=some n→Cf p i=true∨Vc ds n p)→
     (∀e∈p.after,Region.binds .any e=true→e.on<pre.length+(j+1))∧(∀(i:Nat) (n:Oper),i<pre.length+(j+1)→(pre++o::r)[i]?=some n→Cf p i=true∨Vc ds n p):=by
    rintro⟨a,b⟩
    simp only[Yo,DW,EW,Fu,In,Ip]at a b
    exact⟨fun e he C=>by have:=a e he C;omega,fun i n hi g=>b i n (by omega) g⟩
   split at s
   ·rename_i d v
    simp only[Yc]at s
    obtain⟨⟨D,I⟩,H⟩:=s
    have y:FF seen d=none:=by cases w:FF seen d with|none=>rfl|some i=>rw[w]at D;cases D
    refine conv (fin _ (q ((d,pre.length)::seen) (fun d' i w=>?_) (fun i m d' g k=>?_)) H)
    ·simp only[FF]at w
     split at w
     ·rename_i he;cases w;rw[←Yb he];exact⟨o,by simp,v⟩
     ·obtain⟨m,a,b⟩:=u.s1 d' i w
      refine⟨m,?_,b⟩
      rw[Yn];exact a
      rcases YH i pre.length with l|x
      ·exact l
      ·rw[YK x]at a;cases a
    ·simp only[FF]
     rcases QW i pre.length with l|heq|AP
     ·rw[Yn l]at g
      have:=u.s2 i m d' g k
      split
      ·rename_i he
       rw[←Yb he,y]at this;cases this
      ·exact this
     ·subst heq;simp at g;subst g;rw[v]at k;cases k;simp
     ·rw[YK (by simp;omega)]at g;cases g
   ·rename_i v
    refine conv (fin _ (q seen (fun d' i w=>?_) (fun i m d' g k=>?_)) s)
    ·obtain⟨m,a,b⟩:=u.s1 d' i w
     refine⟨m,?_,b⟩
     rw[Yn];exact a
     rcases YH i pre.length with l|x
     ·exact l
     ·rw[YK x]at a;cases a
    ·rcases QW i pre.length with l|heq|AP
     ·rw[Yn l]at g;exact u.s2 i m d' g k
     ·subst heq;simp at g;subst g;rw[v]at k;cases k
     ·rw[YK (by simp;omega)]at g;cases g
theorem ZlV{ops:List Oper}{x y:Oper}(h:Vc (ops.map (·.dst)) x y):x.apart ops.toArray y=true:=by
 obtain⟨a,c⟩:=h
 rw[Zpi]at c
 have b:∀d,x.dst=some d→d∉y.looksAt ops.toArray∧y.dst≠some d:=fun d e=>by have:=a d e;rw[Zpi]at this;exact this
 unfold Oper.apart
 grind
theorem Zji{ops:Array Oper}(l:∀(j:Nat) (c:Oper),ops[j]?=some c→∀e∈c.after,Region.binds .any e=true→e.on<j)
  (m:∀(i j:Nat) (n c:Oper),i<j→ops[i]?=some n→ops[j]?=some c→Cf c i=true∨n.apart ops c=true):
  ∀(fuel k:Nat) (a:Array Bool),fuel+k=ops.size→a.size=ops.size→(∀j,j<ops.size→a[j]?=some (decide (j<k)))→Region.lexFrom .any ops fuel k a=true
 |0,k,a,p,hs,hl=>by
  simp only[Region.lexFrom]
  rw[List.isEmpty_iff,Region.ready,QG]
  intro i hi
  have hi:=Lj.1 hi
  have:=hl i hi
  simp[Yz,this]
  omega
 |fuel+1,k,a,p,hs,hl=>by
  have f:k<ops.size:=by omega
  have b:ops[k]?=some ops[k]:=Yp f
  simp only[Region.lexFrom,Yc]
  refine⟨⟨?_,?_⟩,Zji l m fuel (k+1) _ (by omega) (by simp[hs]) (fun j d=>?_)⟩
  ·rw[List.contains_iff_mem]
   unfold Region.ready
   refine Y6.2 ⟨Lj.2 f,?_⟩
   rw[Yc]
   refine⟨by simp[Yz,hl k f],?_⟩
   rw[b]
   simp only[YZ,YU]
   rw[Array.all_eq_true_iff_forall_mem]
   intro e he
   by_cases o:Region.binds .any e=true
   ·have:=l k _ b e he o
    simp[Yz,hl e.on (by omega),this]
   grind
  ·unfold Region.free
   rw[b]
   simp only[Yq,Lj]
   intro j d
   rw[YF,YF]
   rcases QW j k with g|heq|AP
   ·left;right;simp[Yz,hl j d,g]
   ·grind
   ·right
    rw[Yp d]
    simp only
    rw[YF]
    rcases m k j _ _ AP b (Yp d)with h|h
    ·left
     unfold Cf at h
     obtain⟨e,he,h⟩:=YQ.1 h
     rw[←Array.any_toList]
     exact YQ.2 ⟨e,he,by simpa using h⟩
    grind
  grind
theorem ZjA{ops:List Oper}(h:WN ops=true):Region.lexB .any ops.toArray=true:=by
 unfold WN at h
 rw[Yc]at h
 have g:∀(l:List Oper),VS l=true→l.all (fun o=>match o.op with|.select ..=>false|_=>true)=true:=fun l=>by
  induction l with
  |nil=>intro _;rfl
  |cons o l p=>
   intro m
   simp only[VS,Yc]at m
   grind
 have key:=Zit (ops.map (·.dst)) ops [] [] [] ⟨fun d i k=>by simp[FF]at k,fun i o d e=>by simp at e,fun i o e=>by simp at e⟩ h.2
 simp only[EW,YJ,Ip]at key
 unfold Region.lexB
 rw[Yc]
 refine⟨?_,Zji (fun j f b=>(key j f (by simpa using b)).1) (fun i j n f c hi b=>?_) _ 0 _ rfl (by simp) (fun j b=>by simp at b⊢;simp[b])⟩
 ·unfold Region.noSelect
  grind
 ·rcases(key j f (by simpa using b)).2 i n c (by simpa using hi)with a|a
  ·grind
  ·exact .inr (ZlV a)
end Go.Eng
