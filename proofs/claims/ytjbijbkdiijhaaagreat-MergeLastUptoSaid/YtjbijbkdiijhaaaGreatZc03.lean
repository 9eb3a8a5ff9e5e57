import Derived.Test.YtjbijbkdiijhaaaGreatZc02
import Derived.KernelRfl
import Derived.Still
import Derived.IntWalk
import Derived.Test.YtjbijbkdiijhaaaGreatZc00
namespace Go.Eng
set_option linter.all false
open Go Go.RowKit
def IR(s:Nat→AV)(ds:List (Option Nat))(i:Nat)(b:Bool):Option Bool:=
 match ds[i]? with
 |some (some d)=>match s d with|.d (.bool t)=>some (t==b)|.tup []=>some false|_=>none
 |_=>none
def BP(P:Program)(l n:Nat)(B:Base)(c:Code)(Q:Exit→St→Prop)(σ:St):Prop:=
 ∀a w,R l n B σ a w→c.wp P (fun e d w'=>∃b,Q e b∧R l n B b d w') a w
def vf(K:St→Prop)(Q:Exit→St→Prop):Exit→St→Prop
 |.normal,σ=>K σ
 |e,σ=>Q e σ
def WW(id:Nat)(Q:Exit→St→Prop):Exit→St→Prop
 |.exit i,σ=>if i=id then Q .normal σ else Q (.exit i) σ
 |e,σ=>Q e σ
section
variable {P:Program} {l n:Nat} {B:Base} {H H':Hp} {m m':Mu} {S S':Nat→Prop} {w w':World} {s:Nat→AV} {a:Act} {K:St→Prop} {o:Oper} {σ:St} {Q:Exit→St→Prop}
theorem Zps{xs ys:List AV}{vs d:Array Value}(h:K5 w S H m l xs vs)(k:K5 w S H m l ys d):K5 w S H m l (xs++ys) (vs++d):=by
 refine⟨by simp[h.1,k.1],fun i x v hx c=>?_⟩
 rcases YF i xs.length with b|a
 ·rw[Yp b]at hx
  rw[ab (by rw[←h.1];exact b)]at c
  exact h.2 i x v hx c
 ·rw[Ys a]at hx
  rw[Array.getElem?_append_right (by rw[←h.1];exact a),←h.1]at c
  exact k.2 _ x v hx c
theorem Zop{c:Call}{f:Operand}{g:FuncId}{first b:List AV}(O:o.op=.call c)(M:c.callee=.value f)(N:ev s f=.fn (.func g) first b)
  (h:Zc1 P g (l+1) (first++c.args.toList.map (ev s)++b) H (O3 n o.dst K ⟨s,H⟩)):CY P l n B o K ⟨s,H⟩:=by
 intro a w L Q
 obtain⟨m,S,J,A,q,y,t⟩:=L.un
 obtain⟨⟨fn,cd,F,G,I⟩,h⟩:=h
 have j:=DP y f
 rw[N]at j
 generalize U:a.eval f=V at j
 cases j with
 |fn _ _ _ vs C hx hy D E=>
  have i:K5 w S H m (l+1) (first++c.args.toList.map (ev s)++b) (vs++c.args.map a.eval++C):=
   Zps (Zps ⟨hx,D⟩ (PX y c.args)) ⟨hy,E⟩
  have u:(execOp a.eval o).run P w=.ok (.enter g (vs++c.args.map a.eval++C)) w:=by
   unfold execOp
   simp only[O,resolve,M,U,Deferred.ofValue,Sem.run_bind,Sem.run_pure,Result.andThen_ok,invoke]
   exact Go.MuLone.run_callFunc_enter F I G _ w
  unfold Oper.wp
  rw[u]
  refine(h m S w _ J i).mono fun e w' ⟨r,v,H',m',S',he,k,p,T,x⟩=>?_
  subst he
  unfold O3 CF at k
  cases z:o.dst with
  |none=>
   rw[z]at k
   exact⟨_,k,R.keep p A q y t x⟩
  |some d=>
   rw[z]at k
   exact⟨_,k.2,R.step p A q y t x k.1 T⟩
theorem MO(h:BG P l n o K σ):CY P l n B o K σ:=by
 obtain⟨s,H⟩:=σ
 unfold BG at h
 split at h
 ·rename_i t a
  split at h
  ·rename_i d z b j;exact Zte a b j h.1 h.2
  grind
 ·rename_i t x a
  split at h
  ·rename_i d z b j;exact ZFS a b j h.1 h.2
  grind
 ·rename_i t p x a
  split at h
  ·rename_i k g off vs b Q hx
   obtain⟨r,A,C,D,E,N,O⟩:=h
   exact ZvL a b Q hx r A C D E N O
  grind
 ·rename_i t len parts a
  split at h
  ·rename_i d e sz b he
   obtain⟨q,h⟩:=h
   split at h
   ·exact ZiU a b he q h.1 h.2.1 h.2.2
   ·rename_i len
    obtain⟨i,h⟩:=h
    split at h
    ·rename_i z j
     obtain⟨w,h⟩:=h
     split at h
     ·rename_i S u;exact y8 a b he q i j w u h.1 h.2.1 h.2.2
     ·split at h
      ·rename_i cs u;exact y0 a b he q i j w u h
      grind
    grind
  grind
 ·rename_i t x y a
  split at h
  ·rename_i d e sz T c U R b he hx hy
   obtain⟨r,A,C,D,E,h⟩:=h
   split at h
   ·rename_i z j;exact ZzA a b he hx hy r A C D E j h.1 h.2
   grind
  grind
 ·rename_i c a
  split at h
  ·rename_i f F
   split at h
   ·rename_i g first G u;exact Zop a F u h
   grind
  ·rename_i F
   split at h
   ·rename_i d x y t I b m v
    obtain⟨r,h⟩:=h
    have J:c.args=#[x,y]:=Dc (by simpa using m)
    have L:I=t:=by
     have:c.argTypes=#[t,I]:=Dc (by simpa using v)
     grind
    have M:c.argTypes=#[t,t]:=Dc (by rw[v,L])
    exact ZqV a F J M b h
   grind
  ·rename_i r A;exact VN h
 ·exact VN h
theorem zQ{ops:Array Oper}(n:CT l s H m S a w){i:Nat}{b t:Bool}(h:IR s (ops.toList.map (·.dst)) i b=some t):(yielded ops a.tmps i==some b)=t:=by
 unfold IR at h
 split at h
 ·rename_i d f
  have e:=n d
  rw[YR,YC]at f
  cases j:ops[i]? with
  |none=>rw[j]at f;cases f
  |some o=>
   rw[j]at f
   simp only[YY,Yj]at f
   split at h
   ·rename_i q k
    simp only[Yj]at h
    subst h
    rw[k]at e
    have c:d<a.tmps.size:=by
     rcases YF d a.tmps.size with c|g
     ·exact c
     ·exfalso
      rw[Yy,Gm g]at e
      simp only[Option.getD_none]at e
      generalize p:undef=u at e
      cases e with
      |d _ _ f=>cases f;cases p
    unfold yielded
    rw[j]
    simp only[Ya,f,Yw c]
    rw[Yy,Yw c]at e
    simp only[YT]at e
    generalize a.tmps[d]=v at e
    cases e with
    |d _ _ f=>cases f;cases q<;>cases b<;>rfl
   ·rename_i k
    simp only[Yj]at h
    subst h
    rw[k]at e
    unfold yielded
    rw[j]
    simp only[Ya,f]
    rcases YF d a.tmps.size with c|g
    ·simp only[Yw c]
     rw[Yy,Yw c]at e
     simp only[YT]at e
     generalize a.tmps[d]=v at e
     cases e with
     |tup _ _ _ _=>rfl
    grind
   ·cases h
 ·cases h
theorem jP{ops:Array Oper}{b:List Oper}{KK:St→Prop}{QQ:Exit→Act→World→Prop}(p:Region.wanted o (yielded ops a.tmps)=true)(h:CY P l n B o KK σ)(m:R l n B σ a w)
  (k:∀d j w',KK d→R l n B d j w'→wpList P ops QQ b j w'):wpList P ops QQ (o::b) a w:=by
 unfold wpList
 rw[Yk p]
 refine .inl ?_
 have:=h a w m QQ
 unfold Oper.wp at this⊢
 revert this
 generalize (execOp a.eval o).run P w=r
 have mono:∀(r:Result Next),o.upon P a (fun j w'=>∃d,KK d∧R l n B d j w') QQ r→o.upon P a (wpList P ops QQ b) QQ r:=by
  intro r h
  cases r with
  |ok x q=>
   cases x<;>first
    |exact h
    |(simp only[Oper.upon]at h⊢;obtain⟨d,g,i⟩:=h;exact k d _ _ g i)
    |skip
   ·rename_i f args
    simp only[Oper.upon]at h⊢
    refine Calls.mono h fun e w2 he=>?_
    cases e with
    |returned v=>obtain⟨d,g,i⟩:=he;exact k d _ _ g i
    |panicked c=>exact he
    |outgrown=>exact he
   ·rename_i row args
    simp only[Oper.upon]at h⊢
    exact Rows.mono h fun v w2 ⟨d,g,i⟩=>k d _ _ g i
  |halt x q=>cases x<;>exact h
 exact mono r
theorem R.undef{d:Nat}(f:R l n B σ a w)(j:d<n):R l n B ⟨upd σ.s d (.tup []),σ.H⟩ (a.put (some d) undef) w:=by
 obtain⟨s,H⟩:=σ
 obtain⟨m,S,e,k,b,g,c⟩:=f.un
 exact R.step e k b g c (Ext.refl _ _ _ _ _) j (.tup [] #[] rfl (fun i x v h=>by simp at h))
theorem H5{c:Code}{b:Exit→St→Prop}(h:BP P l n B c Q σ)(i:∀e σ,Q e σ→b e σ):BP P l n B c b σ:=
 fun a w g=>wp_mono (h a w g) fun _ _ _ ⟨j,d,f⟩=>⟨j,i _ _ d,f⟩
theorem ZAr(h:Q .normal σ):BP P l n B .skip Q σ:=fun _ _ a=>wp_skip ⟨σ,h,a⟩
theorem ZJL(h:Q .ret σ):BP P l n B .ret Q σ:=fun _ _ a=>wp_ret ⟨σ,h,a⟩
theorem Zyw{id:Nat}(h:Q (.exit id) σ):BP P l n B (.exit id) Q σ:=fun _ _ a=>wp_exit ⟨σ,h,a⟩
theorem ZHh{x y:Code}(h:∀K:St→Prop,(∀b,BP P l n B y Q b→K b)→BP P l n B x (vf K Q) σ):BP P l n B (.seq x y) Q σ:=by
 intro a w i
 refine wp_seq (wp_mono (h _ (fun _ h=>h) a w i) fun e g w' ⟨b,d,f⟩=>?_)
 cases e with
 |normal=>exact d g w' f
 |exit id=>exact⟨b,d,f⟩
 |goto id=>exact⟨b,d,f⟩
 |ret=>exact⟨b,d,f⟩
 |panic c=>exact⟨b,d,f⟩
 |outgrown=>exact⟨b,d,f⟩
theorem ZJ2(b:R l n B σ a w){c:Operand}{t:Bool}(h:ev σ.s c=.d (.bool t)):a.eval c=.bool t:=by
 obtain⟨s,H⟩:=σ
 obtain⟨m,S,j,k,g,e,i⟩:=b.un
 have:=DP e c
 rw[show ev s c=.d (.bool t)from h]at this
 generalize a.eval c=v at this
 cases this with
 |d _ _ f=>cases f;rfl
theorem PQ{c:Operand}{x y:Code}{t:Bool}(g:ev σ.s c=.d (.bool t))(d:t=true→BP P l n B x Q σ)(f:t=false→BP P l n B y Q σ):BP P l n B (.cond c x y) Q σ:=
 fun a w b=>wp_cond_split (ZJ2 b g) (fun e=>d e a w b) (fun e=>f e a w b)
theorem Zmx{id:Nat}{c:Code}(h:BP P l n B c (WW id Q) σ):BP P l n B (.block id c) Q σ:=by
 intro a w g
 refine wp_block (wp_mono (h a w g) fun e j w' ⟨f,b,d⟩=>?_)
 cases e with
 |exit i=>
  unfold WW at b
  unfold Exit.inBlock
  grind
 |normal=>exact⟨f,b,d⟩
 |goto id=>exact⟨f,b,d⟩
 |ret=>exact⟨f,b,d⟩
 |panic c=>exact⟨f,b,d⟩
 |outgrown=>exact⟨f,b,d⟩
end
end Go.Eng
namespace Go.Eng
set_option linter.all false
open Go Go.RowKit
def args(xs:List AV):Nat→AV:=fun i=>(xs[i]?).getD .top
def Dm(l:Nat)(H:Hp):Hp:=fun k=>if k.1≤l then H k else⟨0,false,0,0,[]⟩
def IS(l:Nat)(H' H:Hp):Hp:=fun k=>if k.1≤l then H' k else H k
def EI(P:Program)(σ:St):List ResultVar→(List AV→Prop)→Prop
 |[],K=>K []
 |.tmp t::b,K=>EI P σ b (fun xs=>K (σ.s t::xs))
 |.cell a t::b,K=>EH P σ.H t (σ.s a) (fun x=>EI P σ b (fun xs=>K (x::xs)))
def DB:List AV→AV
 |[x]=>x
 |xs=>.tup xs
inductive Fz (H:Hp) (l:Nat):AV→AV→Prop
 |keep (x:AV) (h:x.low l=true):Fz H l x x
 |e0:Fz H l .e0 (.d (.list []))
 |mp (k:Af) (a:Bool) (es:List (List D)) (hk:k.1=l+1) (hl:(H k).live=true) (he:(H k).e=.m a es):Fz H l (.mp k (H k).g) (.d (.map a es))
 |ref (k:Af) (off n:Nat) (es:List (List D)) (hk:k.1=l+1) (hl:(H k).live=true) (hn:es.length=n) (hz:(H k).sz≠0) (he:∀e,e∈es→e.length=(H k).sz)
   (hlen:(off+n)*(H k).sz≤(H k).cells.length)
   (h:∀(i j:Nat) (e:List D) (d:D) (x:AV),es[i]?=some e→e[j]?=some d→(H k).cells[(off+i)*(H k).sz+j]?=some x→Fz H l x (.d d)):
   Fz H l (.ref k (H k).g off n) (.d (.list es))
 |agg (xs ys:List AV) (hl:xs.length=ys.length) (h:∀(i:Nat) (x y:AV),xs[i]?=some x→ys[i]?=some y→Fz H l x y):Fz H l (.agg xs) (.agg ys)
 |tup (xs ys:List AV) (hl:xs.length=ys.length) (h:∀(i:Nat) (x y:AV),xs[i]?=some x→ys[i]?=some y→Fz H l x y):Fz H l (.tup xs) (.tup ys)
def xy(P:Program)(fn:Func)(l:Nat)(H:Hp)(a:AV→Hp→Prop):Exit→St→Prop:=fun e σ=>
 (e=.normal∨e=.ret)∧EI P σ fn.results.toList (fun xs=>∃y,Fz σ.H l (DB xs) y∧a y (IS l σ.H H))
section
variable {P:Program} {l n:Nat} {B:Base} {H H':Hp} {m m':Mu} {S S':Nat→Prop} {w w':World} {s:Nat→AV} {a:Act} {K:St→Prop} {o:Oper} {σ:St} {Q:Exit→St→Prop}
theorem Zp1{t:TypeId}{v b:Value}(h:(Instr.loadAt t v).run P w=.ok b w):(do loadVar t (←asAddr v):Sem Value).run P w=.ok b w:=by
 cases v<;>try (simp[Instr.loadAt,Instr.sureAddr]at h;done)
 rename_i p
 cases p with
 |none=>simp[Instr.loadAt,Instr.sureAddr]at h
 |some a=>simpa[Instr.loadAt,Instr.sureAddr,asAddr]using h
def Ph(tmps:Array Value):ResultVar→Sem Value
 |.tmp t=>pure (tmps.getD t undef)
 |.cell p t=>do loadVar t (←asAddr (tmps.getD p undef))
theorem kc(k:Ok (l+1) H m S w)(c:CT (l+1) s H m S a w):∀(rs:List ResultVar) (K:List AV→Prop),EI P ⟨s,H⟩ rs K→
  ∃(vs:List Value) (xs:List AV),(rs.mapM (Ph a.tmps)).run P w=.ok vs w∧xs.length=vs.length∧
   (∀(i:Nat) (x:AV) (v:Value),xs[i]?=some x→vs[i]?=some v→RepA w S H m (l+1) x v)∧K xs
 |[],K,h=>⟨[],[],by simp,rfl,fun i x v h=>by simp at h,h⟩
 |.tmp t::b,K,h=>by
  obtain⟨vs,xs,f,g,n,j⟩:=kc k c b _ h
  refine⟨a.tmps.getD t undef::vs,s t::xs,by simp only[SN,Ph,Sem.run_bind,Sem.run_pure,Result.andThen_ok,f],by simp[g],fun i x v hx d=>?_,j⟩
  cases i with
  |zero=>simp at hx d;subst hx;subst d;simpa using c t
  |succ i=>exact n i x v (by simpa using hx) (by simpa using d)
 |.cell p t::b,K,h=>by
  obtain⟨v0,r,o,u,q⟩:=zf h (c p) k
  obtain⟨vs,xs,f,g,n,j⟩:=kc k c b _ q
  refine⟨v0::vs,r::xs,?_,by simp[g],fun i x v hx d=>?_,j⟩
  ·have:=Zp1 o
   have e:(Ph a.tmps (.cell p t)).run P w=.ok v0 w:=this
   simp only[SN,Sem.run_bind,e,Sem.run_pure,Result.andThen_ok,f]
  grind
def Nl(l:Nat)(H:Hp)(m:Mu)(S:Nat→Prop):Nat→Prop:=fun b=>S b∨∃k:Af,k.1=l+1∧(H k).live=true∧((m k).cap≠0∨(H k).e.isO=true)∧b=(m k).b
theorem Ok.fin(h:Ok (l+1) H m S w):Ok l H m (Nl l H m S) w∧Ext l H m S w H m (Nl l H m S) w:=by
 have n:Ext (l+1) H m S w H m (Nl l H m S) w:=⟨fun _ h=>.inl h,fun _ _=>rfl,fun _ _=>Yf _,fun _ _ _ h=>⟨h,rfl,rfl⟩,rfl,rfl,rfl,Yf _⟩
 refine⟨⟨fun b c=>?_,fun q u=>h.empty q (by omega),fun q u hl g=>?_,fun q z u y=>h.inj q z (by omega) (by omega),fun q u hl g=>?_,
  ⟨fun k p j=>(h.mp.o k (by omega) j).mono (fun _ h=>.inl h) (fun _ _=>rfl) (fun _=>rfl),fun k p j he=>?_,fun k k' p s=>h.mp.i k k' (by omega) (by omega)⟩⟩,n.mono (by omega)⟩
 ·rcases c with c|⟨k,p,hl,g,rfl⟩
  ·exact h.sub b c
  ·rcases g with g|g
   ·obtain⟨C,c,_⟩:=h.blk k (by omega) hl g
    grind
   ·obtain⟨o,c,_⟩:=(h.mp.o k (by omega) hl).at g
    grind
 ·rintro(hs|⟨k,p,f,a,e⟩)
  ·exact h.fresh q (by omega) hl g hs
  ·rcases a with a|a
   ·have:=h.inj q k (by omega) (by omega) hl f g a e
    grind
   ·obtain⟨o,c,r⟩:=(h.mp.o k (by omega) f).at a
    obtain⟨C,d,_⟩:=h.blk q (by omega) hl g
    rw[e,c]at d;cases d;cases r
 ·obtain⟨C,c,hs,t,hx⟩:=h.blk q (by omega) hl g
  exact⟨C,c,hs,t,fun i x v hi j=>⟨(hx i x v hi j).1,(hx i x v hi j).2.ext n (by omega)⟩⟩
 ·refine⟨(h.mp.c k (by omega) j he).1,?_⟩
  rintro(hs|⟨k',s,f,a,e⟩)
  ·exact(h.mp.c k (by omega) j he).2 hs
  ·rcases a with a|a
   ·obtain⟨o,c,r⟩:=(h.mp.o k (by omega) j).at he
    obtain⟨C,d,_⟩:=h.blk k' (by omega) f a
    rw[←e,c]at d;cases d;cases r
   ·have:=h.mp.i k k' (by omega) (by omega) j f he a e
    grind
theorem Fz.sound{x y:AV}(h:Fz H l x y)(Q:Ok (l+1) H m S w):∀{v:Value},RepA w S H m (l+1) x v→RepA w (Nl l H m S) H m l y v:=by
 have t:Ext (l+1) H m S w H m (Nl l H m S) w:=⟨fun _ h=>.inl h,fun _ _=>rfl,fun _ _=>Yf _,fun _ _ _ h=>⟨h,rfl,rfl⟩,rfl,rfl,rfl,Yf _⟩
 induction h with
 |keep x h=>exact fun hx=>(hx.ext t (Yf _)).low h
 |e0=>
  intro v hx
  cases hx with
  |e0 N=>exact(RepA.e0 N).e0_d
 |mp k a es I hl he=>
  intro v hx
  generalize F:(H k).g=g at hx
  cases hx with
  |mpD _ _ _ p G s o=>rw[s F.symm]at hl;cases hl
  |mpL _ p q=>
   have U:=Q.mp.o k (by omega) hl
   rw[he]at U
   obtain⟨ents,A,o,O⟩:=U
   exact .d _ _ (.ofM (.inr ⟨k,I,hl,.inr (by rw[he];rfl),rfl⟩) o (O.mono (fun _ h=>.inl h) (fun _ _=>rfl)))
 |ref k off n es I hl J hz he f h u=>
  intro v hx
  generalize F:(H k).g=g at hx
  cases hx with
  |refD _ _ _ _ _ p G s o=>rw[s F.symm]at hl;cases hl
  |refL _ _ _ N p q T R=>
   by_cases K:n=0
   ·subst K
    have:es=[]:=I3 J
    subst this
    cases N with
    |none=>
     have e:(m k).cap-off=0:=by
      rcases YF off (m k).cap with h|h
      ·have:=R h;cases this
      ·omega
     rw[e]
     exact .d _ _ .nil
    |some ad=>exact .d _ _ (.list [] ad 0 _ (fun _ _=>.bool true) (fun h=>absurd rfl h) (Cv _) (fun _ h=>by cases h) (fun i j e x h=>by simp at h) (fun i j e x h=>by simp at h))
   ·have L:=R (by omega)
    subst L
    obtain⟨E,C,o,O,Z,P⟩:=Q.row (k:=k) (by omega) hl (by
     intro e
     rw[e,YX]at f
     have:=S1 (show 0<n by omega) (show 0<(H k).sz by omega)
     simp at f
     omega)
    have r:∀(i j:Nat) (e:List D) (d:D),es[i]?=some e→e[j]?=some d→(off+i)*(H k).sz+j<(H k).cells.length:=by
     intro i j e d hi c
     have W:i<n:=by
      rw[←J]
      rcases YF i es.length with h|h
      ·exact h
      ·rw[YM h]at hi;cases hi
     have X:j<(H k).sz:=by
      rw[←he e (Yi hi)]
      rcases YF j e.length with h|h
      ·exact h
      ·rw[YM h]at c;cases c
     have:(off+i+1)*(H k).sz≤(off+n)*(H k).sz:=Y9 _ (by omega)
     rw[YX (off+i)]at this
     omega
    have:=RepD.list (w:=w) (S:=Nl l H m S) es ⟨(m k).b,(m k).o+off*(H k).sz,none⟩ (H k).sz ((m k).cap-off) (fun i j=>(C[(m k).o+((off+i)*(H k).sz+j)]?).getD undef)
     (fun _=>.inr ⟨k,I,hl,.inl E,rfl⟩) (by omega) he
     (fun i j e d hi c=>by
      obtain⟨v,z,_,_⟩:=P _ _ (Ye (r i j e d hi c))
      rw[Addr.add_lit,JD o,z]
      rw[show(m k).o+off*(H k).sz+(i*(H k).sz+j)=(m k).o+((off+i)*(H k).sz+j)from by rw[YX];omega,z]
      rfl)
     (fun i j e d hi c=>by
      obtain⟨v,z,Y,V⟩:=P _ _ (Ye (r i j e d hi c))
      rw[z]
      have:=u i j e d _ hi c (Ye (r i j e d hi c)) V
      cases this with
      |d _ _ s=>exact s)
    rw[J]at this
    exact .d _ _ this
 |agg xs ys hl h u=>
  intro v hx
  cases hx with
  |agg _ vs q o B=>
   refine .agg _ _ (by omega) o (fun i y v hy M=>?_)
   have b:i<xs.length:=by
    rw[hl]
    rcases YF i ys.length with h|h
    ·exact h
    ·rw[YM h]at hy;cases hy
   exact u i _ y (Ye b) hy (B i _ v (Ye b) M)
 |tup xs ys hl h u=>
  intro v hx
  cases hx with
  |tup _ vs q B=>
   refine .tup _ _ (by omega) (fun i y v hy M=>?_)
   have b:i<xs.length:=by
    rw[hl]
    rcases YF i ys.length with h|h
    ·exact h
    ·rw[YM h]at hy;cases hy
   exact u i _ y (Ye b) hy (B i _ v (Ye b) M)
theorem Zkg{fn:Func}{KK:List AV→Prop}(j:Ok (l+1) H m S w)(k:CT (l+1) s H m S a w)(h:EI P ⟨s,H⟩ fn.results.toList KK):
  ∃v xs,(results fn a.tmps).run P w=.ok v w∧RepA w S H m (l+1) (DB xs) v∧KK xs:=by
 obtain⟨vs,xs,d,c,b,g⟩:=kc j k _ _ h
 have o:∀f:ResultVar→Sem Value,(∀r,f r=Ph a.tmps r)→(fn.results.mapM f).run P w=.ok vs.toArray w:=by
  intro f n
  have:f=Ph a.tmps:=funext n
  subst this
  rw[qY]
  simp[d]
 refine⟨if h:vs.toArray.size=1 then vs.toArray[0]else .tuple vs.toArray,xs,?_,?_,g⟩
 ·unfold results
  simp only[Sem.run_bind]
  rw[o _ (fun r=>by cases r<;>rfl)]
  simp
 ·match xs,vs,c,b with
  |[x],[v],_,b=>exact b 0 x v rfl rfl
  |[],[],_,_=>exact .tup _ _ rfl (fun i x v h=>by simp[DB]at h)
  |x::x'::xs,v::q::vs,c,b=>
   have e:¬((v::q::vs).toArray.size=1):=by simp
   rw[dif_neg e]
   exact .tup _ _ (by simpa using c) (fun i x v hx p=>b i x v hx (by simpa using p))
theorem Zyc{P:Program}{f:FuncId}{fn:Func}{c:Code}{n l:Nat}{xs:List AV}{H:Hp}{s:AV→Hp→Prop}(hf:P.funcs[f]?=some fn)(hb:fn.body=some c)(G:(fn.name== "runtime.NumGoroutine")=false)
  (hn:fn.ntmps=n) (hx:xs.length≤n) (h:∀B:Base,BP P l n B c (xy P fn l H s) ⟨args xs,Dm l H⟩):Zc1 P f l xs H s:=by
 refine⟨⟨fn,c,hf,hb,G⟩,fun m S w vs K j=>?_⟩
 have a:∀k:Af,k.1≤l→Dm l H k=H k:=fun k g=>by unfold Dm;rw[Yk g]
 have hdead:∀k:Af,¬k.1≤l→(Dm l H k).live=false:=fun k g=>by unfold Dm;rw[Ym g]
 have u:∀k:Af,(Dm l H k).live=true→k.1≤l:=fun k hl=>by
  grind
 have X:Ok (l+1) (Dm l H) m S w:=by
  refine⟨K.sub,fun q d hl o=>?_,fun q d hl o=>?_,fun q M d I hl t o J heq=>?_,fun q d hl o=>?_,
   K.mp.stepL (fun q _ hl _=>by have:=u q hl;rw[a q this]at hl⊢;exact⟨this,hl,rfl,rfl⟩) (fun _ h=>h) (fun _ h=>.inl h) (fun _ _=>rfl) (fun _ _ h _=>h)⟩
  ·have:=u q hl;rw[a q this]at hl⊢;exact K.empty q this hl o
  ·have:=u q hl;rw[a q this]at hl;exact K.fresh q this hl o
  ·have e:=u q hl
   have e':=u M t
   rw[a q e]at hl;rw[a M e']at t
   exact K.inj q M e e' hl t o J heq
  ·have e:=u q hl
   rw[a q e]at hl⊢
   obtain⟨C,U,V,W,T⟩:=K.blk q e hl o
   exact⟨C,U,V,W,fun i x v hi O=>⟨(T i x v hi O).1,(T i x v hi O).2.agree (fun k g=>a k (by omega)) (fun _ _=>rfl)⟩⟩
 have hE:Ext l H m S w (Dm l H) m S w:=⟨fun _ h=>h,fun _ _=>rfl,fun k g=>by rw[a k g];exact Yf _,fun k g _ hl=>by rw[a k g]at hl⊢;exact⟨hl,rfl,rfl⟩,rfl,rfl,rfl,Yf _⟩
 have hR:R l n ⟨H,m,S,w⟩ ⟨args xs,Dm l H⟩ {tmps:=vs++Array.replicate (fn.ntmps-vs.size) undef,defers:=[] } w:=by
  refine⟨m,S,X,by simp[hn];rw[←j.1];omega,rfl,fun i=>?_,hE⟩
  simp only[args]
  cases hi:xs[i]? with
  |none=>exact .top _
  |some x=>
   have hlt:i<xs.length:=by
    grind
   have D:i<vs.size:=by rw[←j.1];exact hlt
   rw[Yy,ab D,Yw D]
   exact((j.2 i x _ hi (Yw D)).agree (fun k g=>a k g) (fun _ _=>rfl)).lvl (Nat.le_succ l)
 refine calls_of_wp hf hb (wp_mono (h ⟨H,m,S,w⟩ _ w hR) fun e a' w' ⟨σ',d,Y⟩=>?_)
 obtain⟨s',H'⟩:=σ'
 obtain⟨m',S',A,hn',hd',Z,N⟩:=Y.un
 have done:EI P ⟨s',H'⟩ fn.results.toList (fun xs=>∃y,Fz H' l (DB xs) y∧s y (IS l H' H))→a'.defers=[]∧∃v,(results fn a'.tmps).run P w'=.ok v w'∧
   (∃r Q p E z,Ending.returned v=.returned Q∧s r p∧Ok l p E z w'∧RepA w' z p E l r Q∧Ext l H m S w p E z w'):=by
  intro hr
  obtain⟨v,xs,U,V,y,W,T⟩:=Zkg A Z hr
  obtain⟨L,k2⟩:=A.fin
  have b:∀k:Af,k.1≤l→IS l H' H k=H' k:=fun k g=>by unfold IS;rw[Yk g]
  refine⟨hd',v,U,y,v,IS l H' H,m',_,rfl,T,?_,(W.sound A V).agree b (fun _ _=>rfl),?_⟩
  ·refine⟨L.sub,fun q d hl o=>?_,fun q d hl o=>?_,fun q M d I hl t o J heq=>?_,fun q d hl o=>?_,
    L.mp.step (Yf _) (fun q d hl _=>by rw[b q d]at hl⊢;exact⟨hl,rfl,rfl⟩) (fun _ h=>h) (fun _ h=>.inl h) (fun _ _=>rfl) (fun _ _ h _=>h)⟩
   ·rw[b q d]at hl⊢;exact L.empty q d hl o
   ·rw[b q d]at hl;exact L.fresh q d hl o
   ·rw[b q d]at hl;rw[b M I]at t;exact L.inj q M d I hl t o J heq
   ·rw[b q d]at hl⊢
    obtain⟨C,g1,g2,g3,g4⟩:=L.blk q d hl o
    exact⟨C,g1,g2,g3,fun i x v hi O=>⟨(g4 i x v hi O).1,(g4 i x v hi O).2.agree (fun k g=>b k (by omega)) (fun _ _=>rfl)⟩⟩
  ·have F:=Ext.trans (show Ext l H m S w H' m' S' w' from N) k2
   exact⟨F.s,F.blk,fun k g=>by rw[b k g];exact F.g k g,fun k g hg hl=>by rw[b k g]at hg hl⊢;exact F.live k g hg hl,F.os,F.tape,F.output,F.size⟩
 rcases d.1 with rfl|rfl
 ·exact done d.2
 ·exact done d.2
end
section
variable {P:Program} {l n:Nat} {ds:List (Option Nat)} {ops rest:List Oper} {K:St→Prop} {s:Nat→AV} {H:Hp} {d:Option Nat} {op:Op} {ty:TypeId} {ps:String} {af:Array Edge} {g:Option (Nat×Bool)}
variable {x y:Operand} {t:TypeId}
theorem mQ{l:Nat}{H:Hp}{k:Af}(h:k.1≤l):Dm l H k=H k:=by unfold Dm;rw[Yk h]
theorem ZKk{l:Nat}{H:Hp}{i:Nat}:Dm l H (l+1,i)=⟨0,false,0,0,[]⟩:=by unfold Dm;rw[Ym (by simp)]
end
def CC(o:Oper):Bool:=o.dst.isSome&&match o.op with
 |.call c=>match c.callee with
  |.value _=>true
  |.builtin .len|.builtin .min|.builtin .max=>true
  |_=>false
 |.binOp _ _ _ y _=>!JJ y
 |.alloc _|.box _ _|.store _ _ _|.buildSlice _ _ _|.makeSlice _ _ _|.makeMap _ _|.range _ _|.next _ _|.entry _=>false
 |_=>true
def iI(o:Oper):Bool:=match o.op with
 |.buildSlice _ (_+1) _=>true
 |_=>false
def C1(o:Oper):Bool:=CC o||(o.dst.isSome&&iI o)
def yn(P:Program)(t:TypeId)(len:Nat)(ps:List (Nat×AV))(v:AV):Prop:=
 ∃e sz z es,elm P t=some (e,sz)∧sz≠0∧(len+1)*sz≤16777216∧zer P e=some z∧z.length=sz∧Gb sz 0 ps=some es∧es.length=len+1∧v=.d (.list es)
def qV(P:Program)(l:Nat)(H:Hp)(o:Oper)(ρ:Operand→AV)(v:AV):Prop:=
 match o.op with
 |.buildSlice t (len+1) parts=>yn P t len (parts.toList.map fun p=>(p.1,ρ p.2)) v
 |.call c=>match c.callee with
  |.value f=>match ρ f with
   |.fn (.func g) first a=>Zc1 P g (l+1) (first++c.args.toList.map ρ++a) H (fun y b=>y=v∧b=H)
   |_=>False
  |_=>Bb P H o.op ρ (fun y=>y=v)
 |_=>Bb P H o.op ρ (fun y=>y=v)
def F2(P:Program)(l n:Nat)(o:Oper)(K:St→Prop)(σ:St):Prop:=
 match o.op with
 |.buildSlice t (len+1) parts=>∃v,yn P t len (parts.toList.map fun p=>(p.1,ev σ.s p.2)) v∧CF n o.dst K σ v
 |.call c=>match c.callee with
  |.value f=>match ev σ.s f with
   |.fn (.func g) first a=>∃r,Zc1 P g (l+1) (first++c.args.toList.map (ev σ.s)++a) σ.H (fun y b=>y=r∧b=σ.H)∧CF n o.dst K σ r
   |_=>False
  |_=>BG P l n o K σ
 |_=>BG P l n o K σ
def DQ(P:Program)(l n:Nat)(ds:List (Option Nat)):List Oper→(St→Prop)→St→Prop
 |[],K,σ=>K σ
 |o::a,K,σ=>match o.guard with
  |none=>F2 P l n o (DQ P l n ds a K) σ
  |some (i,b)=>match IR σ.s ds i b with
   |some t=>(t=true→F2 P l n o (DQ P l n ds a K) σ)∧(t=false→match o.dst with|some d=>d<n∧DQ P l n ds a K ⟨upd σ.s d (.tup []),σ.H⟩|none=>False)
   |none=>False
section
variable {P:Program} {l n:Nat} {B:Base} {H:Hp} {K K':AV→Prop} {t:TypeId} {x y:AV} {ρ ρ':Operand→AV}
theorem z1{op:BinOp}{k:IntKind}{a b:Int}(h:∀v,K v→K' v)(c:GL op k a b K):GL op k a b K':=by
 cases op<;>simp only[GL]at c⊢<;>first|exact h _ c|exact⟨c.1,h _ c.2⟩|exact c
theorem z7{op:BinOp}{a b:ByteArray}(h:∀v,K v→K' v)(c:GP op a b K):GP op a b K':=by
 cases op<;>simp only[GP]at c⊢<;>first|exact h _ c|exact⟨c.1,h _ c.2⟩|exact c
theorem Zz2{op:BinOp}{k:IntKind}{a b:Int}(c:GL op k a b K):∃v,GL op k a b (fun y=>y=v)∧K v:=by
 cases op<;>simp only[GL]at c⊢<;>first|exact⟨_,rfl,c⟩|exact⟨_,⟨c.1,rfl⟩,c.2⟩|exact c.elim
theorem ZAd{op:BinOp}{a b:ByteArray}(c:GP op a b K):∃v,GP op a b (fun y=>y=v)∧K v:=by
 cases op<;>simp only[GP]at c⊢<;>first|exact⟨_,rfl,c⟩|exact⟨_,⟨c.1,rfl⟩,c.2⟩|exact c.elim
theorem Zv2(h:EH P H t x K):∃v,EH P H t x (fun y=>y=v)∧K v:=by
 unfold EH at h⊢
 split at h
 ·grind
 ·grind
 grind
theorem Zi1{i:Nat}(h:E0 P H t i x K):∃v,E0 P H t i x (fun y=>y=v)∧K v:=by
 unfold E0 at h⊢
 grind
theorem ZpO{i:Nat}(h:Fb P t i x K):∃v,Fb P t i x (fun y=>y=v)∧K v:=by
 unfold Fb at h⊢
 split at h
 ·split at h
  ·grind
  grind
 grind
theorem ZiV(h:Ew P H t x y K):∃v,Ew P H t x y (fun y=>y=v)∧K v:=by
 unfold Ew at h⊢
 grind
theorem ZqR(h:FL P t x y K):∃v,FL P t x y (fun y=>y=v)∧K v:=by
 unfold FL at h⊢
 grind
theorem ZAX{op:BinOp}{xs ys:List AV}(h:Hw P op t xs ys K):∃v,Hw P op t xs ys (fun y=>y=v)∧K v:=by
 unfold Hw at h⊢
 split at h
 ·grind
 grind
theorem ZyA{op:BinOp}(h:CL P H op t false x y K):∃v,CL P H op t false x y (fun y=>y=v)∧K v:=by
 unfold CL at h⊢
 split at h
 ·obtain⟨v,a,b⟩:=Zz2 h.2;exact⟨v,⟨h.1,a⟩,b⟩
 ·exact ZAd h
 ·grind
 ·exact ZAX h
 ·cases h.1
 grind
theorem ZHS{op:UnOp}(h:ER op x K):∃v,ER op x (fun y=>y=v)∧K v:=by
 unfold ER at h⊢
 grind
theorem ZtW{u:TypeId}(h:Fe P t u x K):∃v,Fe P t u x (fun y=>y=v)∧K v:=by
 unfold Fe at h⊢
 grind
theorem ZpS{lo hi:Option AV}{a:Bool}(h:EA P H t x lo hi a K):∃v,EA P H t x lo hi a (fun y=>y=v)∧K v:=by
 unfold EA at h⊢
 grind
theorem Zzf(h:DR P H t x K):∃v,DR P H t x (fun y=>y=v)∧K v:=by
 unfold DR at h⊢
 grind
theorem Zqe{ps:List (Nat×AV)}(h:FM P t ps K):∃v,FM P t ps (fun y=>y=v)∧K v:=by
 unfold FM at h⊢
 grind
theorem ZGf{op:Op}(g:∀o t x y u,op=.binOp o t x y u→JJ y=false)(h:Bb P H op ρ K):∃v,Bb P H op ρ (fun y=>y=v)∧K v:=by
 cases op<;>simp only[Bb]at h⊢<;>try exact h.elim
 case move x=>exact⟨_,rfl,h⟩
 case assign x=>exact⟨_,rfl,h⟩
 case pick c a b=>
  split at h
  ·grind
  ·grind
 case load=>exact Zv2 h
 case fieldAddr=>exact Zi1 h
 case field=>exact ZpO h
 case indexAddr=>exact ZiV h
 case index=>exact ZqR h
 case extract=>
  split at h
  ·grind
  ·grind
 case binOp o t x y u=>
  rw[g _ _ _ _ _ rfl]at h⊢
  exact ZyA h
 case unOp=>exact ZHS h
 case convert=>exact ZtW h
 case nilCheck=>
  unfold Jg at h⊢
  split at h
  ·grind
  ·grind
  ·grind
 case makeFunc=>exact⟨_,rfl,h⟩
 case makeInterface=>
  obtain⟨d,h⟩:=h
  repeat' split at h
  all_goals first|exact h.elim|exact⟨_,⟨d,rfl⟩,h⟩
 case typeAssert=>
  obtain⟨d,h⟩:=h
  repeat' split at h
  all_goals first|exact h.elim|exact⟨_,⟨d,h.1,rfl⟩,h.2⟩
 case slice=>exact ZpS h
 case build=>exact Zqe h
 case lookup=>exact Ztt h
 case call c=>
  split at h
  ·obtain⟨v,e,f⟩:=Zzf h.2;exact⟨v,⟨h.1,e⟩,f⟩
  ·split at h
   ·unfold Ep at h⊢
    grind
   ·unfold Hx at h⊢
    grind
   grind
  ·grind
theorem Zor{op:Op}(e:∀o t x y u,op=.binOp o t x y u→JJ y=false){v:AV}(d:K v)(h:Bb P H op ρ (fun y=>y=v)):Bb P H op ρ K:=by
 have:(fun y=>y=v)=(fun y=>y=v∧K v):=by funext y;simp[d]
 rw[this]at h
 clear this d
 cases op<;>simp only[Bb]at h⊢<;>try exact h.elim
 case move x=>exact h.1▸h.2
 case assign x=>exact h.1▸h.2
 case pick c a b=>
  split at h
  ·grind
  ·grind
 case load t x=>
  unfold EH at h⊢
  split at h
  ·grind
  ·grind
  ·grind
 case fieldAddr=>
  unfold E0 at h⊢
  split at h
  ·grind
  ·grind
  ·grind
 case field=>
  unfold Fb at h⊢
  split at h
  ·split at h
   ·grind
   grind
  ·grind
 case indexAddr=>
  unfold Ew at h⊢
  split at h
  ·grind
  ·grind
  ·grind
 case index=>
  unfold FL at h⊢
  split at h
  ·grind
  ·grind
 case makeInterface=>
  refine⟨h.1,?_⟩
  replace h:=h.2
  repeat' split at h
  all_goals first|exact h.elim|exact h.1▸h.2
 case typeAssert=>
  refine⟨h.1,?_⟩
  replace h:=h.2
  repeat' split at h
  all_goals first|exact h.elim|exact⟨h.1,h.2.1▸h.2.2⟩
 case extract=>
  split at h
  ·grind
  ·grind
 case binOp o t x y u=>
  rw[e _ _ _ _ _ rfl]at h⊢
  unfold CL at h⊢
  split at h
  ·exact⟨h.1,z1 (fun y (hy:y=v∧K v)=>hy.1▸hy.2) h.2⟩
  ·exact z7 (fun y (hy:y=v∧K v)=>hy.1▸hy.2) h
  ·grind
  ·unfold Hw at h⊢
   split at h
   ·split at h
    ·grind
    grind
   grind
  ·cases h.1
  ·grind
 case unOp=>
  unfold ER at h⊢
  split at h<;>grind
 case nilCheck=>
  unfold Jg at h⊢
  split at h
  ·grind
  ·grind
  ·grind
 case convert=>
  unfold Fe at h⊢
  split at h
  ·grind
  ·grind
  ·grind
 case makeFunc=>exact h.1▸h.2
 case slice=>
  unfold EA at h⊢
  split at h
  ·grind
  ·grind
  ·grind
  ·grind
 case build=>
  unfold FM at h⊢
  split at h
  ·grind
  ·grind
 case lookup=>exact ZmA (fun y (hy:y=v∧K v)=>hy.1▸hy.2) h
 case call c=>
  split at h
  ·refine⟨h.1,?_⟩
   replace h:=h.2
   unfold DR at h⊢
   grind
  ·split at h
   ·unfold Ep at h⊢
    grind
   ·unfold Hx at h⊢
    grind
   grind
  ·grind
theorem kH{o:Oper}(h:C1 o=true)(a:∀t len ps,o.op=.buildSlice t (len+1) ps→False):CC o=true:=by
 unfold C1 at h
 rw[YH]at h
 rcases h with h|h
 ·exact h
 ·exfalso
  unfold iI at h
  split at h
  ·rename_i e;exact a _ _ _ e
  ·simp at h
theorem ku{o:Oper}(a:C1 o=true):∀b t x y u,o.op=.binOp b t x y u→JJ y=false:=by
 intro b t x y u h
 simp only[C1,iI,CC,h,L6,SP,Yc,YJ]at a
 exact a.2
theorem ZoN{o:Oper}{v:AV}(h:∀x∈o.op.operands,ρ x=ρ' x)(a:qV P l H o ρ v):qV P l H o ρ' v:=by
 obtain⟨k,op,type,pos,after,guard⟩:=o
 have d:∀g:Array Operand,(∀x∈g,ρ x=ρ' x)→g.toList.map ρ=g.toList.map ρ':=fun g j=>Es fun x hx=>j x (by simpa using hx)
 cases op<;>simp only[Op.operands]at h<;>simp only[qV,Bb]at a⊢<;>try exact a
 case call c=>
  have j:c.args.toList.map ρ=c.args.toList.map ρ':=d _ fun x hx=>h x (by simp[Call.operands,hx])
  cases i:c.callee with
  |value f=>
   have y:ρ f=ρ' f:=h f (by simp[Call.operands,i])
   grind
  |invoke r m=>simp only[i]at a
  |builtin b=>
   simp only[i]at a⊢
   split at a
   ·rename_i x t w q u
    rw[←h x (by simp[Call.operands,i,rh q])]
    exact a
   ·grind
   grind
 case build t ps=>
  have:(ps.toList.map fun p=>(p.1,ρ p.2))=ps.toList.map fun p=>(p.1,ρ' p.2):=Es fun p s=>by
   grind
  rw[←this];exact a
 case buildSlice t n ps=>
  cases n with
  |zero=>exact a
  |succ n=>
   have:(ps.toList.map fun p=>(p.1,ρ p.2))=ps.toList.map fun p=>(p.1,ρ' p.2):=Es fun p s=>by
    grind
   simp only at a⊢
   rw[←this];exact a
 case makeFunc fn first e=>
  rw[←d first fun x hx=>h x (by simp[hx]),←d e fun x hx=>h x (by simp[hx])];exact a
 case slice t x lo hi z=>
  rw[←h x (by simp),show lo.map ρ'=lo.map ρ from by cases lo<;>simp_all,show hi.map ρ'=hi.map ρ from by cases hi<;>simp_all];exact a
 all_goals(first|(simp_all;done))
theorem Zou{o:Oper}{s:Nat→AV}{K:St→Prop}(a:C1 o=true)(h:F2 P l n o K ⟨s,H⟩):∃d v,o.dst=some d∧d<n∧qV P l H o (ev s) v∧K ⟨upd s d v,H⟩:=by
 have m:∃d,o.dst=some d:=by
  have:o.dst.isSome=true:=by
   unfold C1 CC at a
   rw[YH,Yc,Yc]at a
   rcases a with h|h
   ·exact h.1
   ·exact h.1
  exact Y7.1 this
 obtain⟨d,m⟩:=m
 have i:Bb P H o.op (ev s) (CF n o.dst K ⟨s,H⟩)→(∀v,Bb P H o.op (ev s) (fun y=>y=v)→qV P l H o (ev s) v)→∃d v,o.dst=some d∧d<n∧qV P l H o (ev s) v∧K ⟨upd s d v,H⟩:=fun h p=>by
  obtain⟨v,q,b⟩:=ZGf (ku a) h
  rw[m]at b
  exact⟨d,v,m,b.1,p v q,b.2⟩
 unfold F2 at h
 split at h
 ·rename_i z
  obtain⟨v,q,b⟩:=h
  rw[m]at b
  refine⟨d,v,m,b.1,?_,b.2⟩
  unfold qV
  rw[z]
  exact q
 ·rename_i c j
  replace a:CC o=true:=kH a fun t n ps e=>by rw[j]at e;cases e
  split at h
  ·rename_i f w
   simp only[]at h
   split at h
   ·rename_i g first A B
    obtain⟨r,q,b⟩:=h
    rw[m]at b
    refine⟨d,r,m,b.1,?_,b.2⟩
    simp only[qV,j,w,B]
    exact q
   ·exact h.elim
  ·rename_i w
   refine i ?_ ?_
   ·unfold BG at h
    simp only[j]at h
    simp only[CC,j,Yc]at a
    split at h
    ·rename_i f x;exact absurd x (w f)
    ·rename_i u;rw[u]at a;simp at a
    ·rw[j];exact h
   ·intro v p
    unfold qV
    rw[j]at p⊢
    cases k:c.callee with
    |value f=>exact absurd k (w f)
    |_=>simpa[k]using p
 ·rename_i u j
  replace a:CC o=true:=kH a fun t n ps e=>u _ _ _ e
  refine i ?_ ?_
  ·unfold BG at h
   split at h
   ·rename_i he;simp[CC,he]at a
   ·rename_i he;simp[CC,he]at a
   ·rename_i he;simp[CC,he]at a
   ·rename_i he;simp[CC,he]at a
   ·rename_i he;simp[CC,he]at a
   ·rename_i c he;exact absurd he (j c)
   ·exact h
  ·intro v p
   unfold qV
   split
   ·rename_i he;exact absurd he (u _ _ _)
   ·rename_i c he;exact absurd he (j c)
   ·exact p
theorem ZMl{o:Oper}{s:Nat→AV}{v:AV}{d:Nat}(q:C1 o=true)(b:o.dst=some d)(a:d<n)(h:qV P l H o (ev s) v):CY P l n B o (fun E=>E=⟨upd s d v,H⟩) ⟨s,H⟩:=by
 unfold qV at h
 split at h
 ·rename_i t len parts k
  obtain⟨e,sz,z,G,i,j,u,w,x,y,A,rfl⟩:=h
  exact y8 k b i j u w x y A a rfl
 ·rename_i c C
  split at h
  ·rename_i f p
   split at h
   ·rename_i g first m D
    refine Zop C p D (h.mono fun r F ⟨i,j⟩=>?_)
    subst i;subst j
    rw[b]
    exact⟨a,rfl⟩
   grind
  ·rename_i p
   exact VN (Zor (ku q) (by rw[b];exact⟨a,rfl⟩) h)
 ·exact VN (Zor (ku q) (by rw[b];exact⟨a,rfl⟩) h)
end
section
variable {P:Program} {l n:Nat} {B:Base} {H:Hp} {ops:Array Oper} {md:Region.Mode} {Q:(Nat→AV)→Prop}
def YA(P:Program)(l:Nat)(H:Hp)(ops:Array Oper)(o:Oper)(s:Nat→AV)(v:AV):Prop:=
 match o.guard with
 |none=>qV P l H o (ev s) v
 |some (i,b)=>match IR s (ops.toList.map (·.dst)) i b with
  |some t=>(t=true→qV P l H o (ev s) v)∧(t=false→v=.tup [])
  |none=>False
theorem tk{o:Oper}{s:Nat→AV}{v u:AV}{d:Nat}(k:d∉o.looksAt ops)(h:YA P l H ops o (upd s d u) v):YA P l H ops o s v:=by
 have f:∀x∈o.op.operands,ev (upd s d u) x=ev s x:=fun x hx=>by
  cases x with
  |tmp t=>
   have c:t≠d:=fun e=>k (by
    subst e
    exact HS _ (List.mem_filterMap.2 ⟨.tmp t,by simpa using hx,rfl⟩))
   simp[ev,upd,c]
  |_=>rfl
 unfold YA at*
 cases j:o.guard with
 |none=>simp only[j]at h⊢;exact ZoN f h
 |some m=>
  obtain⟨i,b⟩:=m
  simp only[j]at h⊢
  have g:IR (upd s d u) (ops.toList.map (·.dst)) i b=IR s (ops.toList.map (·.dst)) i b:=by
   unfold IR
   simp only[YR,YC]
   cases n:ops[i]? with
   |none=>rfl
   |some p=>
    cases a:p.dst with
    |none=>simp[a]
    |some t=>
     have c:t≠d:=fun e=>k (by subst e;simp[Oper.looksAt,j,n,a])
     simp[a,upd,c]
  rw[g]at h
  split at h
  ·rename_i t q
   exact⟨fun e=>ZoN f (h.1 e),h.2⟩
  ·exact h
theorem ZI0{o:Oper}{s:Nat→AV}{v u:AV}{d:Nat}(a:d∉o.looksAt ops)(h:YA P l H ops o s v):YA P l H ops o (upd s d u) v:=by
 refine tk (d:=d) (u:=s d) a ?_
 have:upd (upd s d u) d (s d)=s:=by funext j;unfold upd;split<;>simp_all
 grind
theorem Zz1{s:Nat→AV}{d e:Nat}{u v:AV}(h:d≠e):upd (upd s d u) e v=upd (upd s e v) d u:=by
 funext j
 unfold upd
 grind
end
def Mc(P:Program)(t:TypeId)(i:Nat):Option (Nat×Nat×Bool):=
 match P.underlying t with
 |some (.struct a)=>(a[i]?).bind fun f=>(DE P f.type).map fun b=>(f.offset,P.cellsOf f.type,b)
 |_=>none
def O4(o:Option (Nat×Nat×Bool))(x:AV)(K:AV→Prop):Prop:=
 match o,x with
 |some (o,n,true),.agg cs=>n≠0∧K (.agg ((cs.drop o).take n))
 |some (o,_,false),.agg cs=>(match cs[o]? with|some c=>K c|none=>False)
 |_,_=>False
theorem ZsN{P:Program}{t:TypeId}{i:Nat}{x:AV}{K:AV→Prop}:Fb P t i x K=O4 (Mc P t i) x K:=by
 unfold Fb Mc
 cases x with
 |agg cs=>
  cases j:P.underlying t with
  |none=>rfl
  |some d=>
   cases d with
   |struct a=>
    simp only
    cases g:a[i]? with
    |none=>rfl
    |some f=>
     simp only[Ya]
     cases c:DE P f.type with
     |none=>rfl
     |some b=>cases b<;>rfl
   |_=>rfl
 |_=>
  have e:∀(o:Option (Nat×Nat×Bool)) (y:AV),(∀cs,y≠.agg cs)→O4 o y K=False:=fun o y h=>by
   unfold O4
   grind
  grind
structure fins (P:Program) (l:Nat) (H:Hp) (rs:List ResultVar) (Post:AV→Hp→Prop) (e:Exit) (σ:St):Prop where
 he:e=.normal∨e=.ret
 hy:EI P σ rs (fun xs=>∃y,Fz σ.H l (DB xs) y∧Post y (IS l σ.H H))
inductive Fit:D→Prop
 |int (k:IntKind) (n:Int):Fit (.int k n)
 |bool (b:Bool):Fit (.bool b)
 |str (s:ByteArray) (h:s.size<2147483648):Fit (.str s)
 |list (es:List (List D)) (hl:es.length<2147483648) (h:∀e∈es,∀x∈e,Fit x):Fit (.list es)
def Kx(l:List D):Prop:=∀d∈l,Fit d
theorem Fit.len{α:Type}{e:α→List D}{xs:List α}(h:Fit (.list (xs.map e))):xs.length<2147483648:=by
 cases h with|list _ hl h=>simpa using hl
theorem Fit.mem{α:Type}{e:α→List D}{xs:List α}(h:Fit (.list (xs.map e))){x:α}(hx:x∈xs):Kx (e x):=by
 cases h with|list _ hl h=>exact h _ (Z4 hx)
theorem Fit.el{α:Type}{e:α→List D}{xs:List α}(h:Fit (.list (xs.map e))){i:Nat}{x:α}(hx:xs[i]?=some x):Kx (e x):=h.mem (Yi hx)
theorem Kx.at{l:List D}(h:Kx l)(i:Nat){d:D}(hi:l[i]?=some d):Fit d:=h d (Yi hi)
theorem Kx.sub{l:List D}(h:Kx l)(i n:Nat){m:List D}(hi:(l.drop i).take n=m):Kx m:=by
 subst hi
 exact fun d a=>h d (Z0 (Z1 a))
def nrm:AV→AV
 |.e0=>.d (.list [])
 |.agg xs=>.agg (xs.map fun x=>match x with|.e0=>.d (.list [])|x=>x)
 |x=>x
section
variable {P:Program} {l n:Nat} {B:Base} {H H':Hp} {K:St→Prop} {σ σ':St} {Q:Exit→St→Prop} {s:Nat→AV} {ds:List (Option Nat)} {d:Option Nat} {op:Op} {ty:TypeId} {ps:String} {af:Array Edge} {rest:List Oper}
 {g:Option (Nat×Bool)} {x y:Operand} {t:TypeId}
theorem kQ{a b:Code}(h:BP P l n B a (vf (BP P l n B b Q) Q) σ):BP P l n B (.seq a b) Q σ:=ZHh fun _ c=>H5 h fun e σ' h=>by
 cases e<;>first|exact c σ' h|exact h
theorem MU{a:Int}{i:Nat}(h:a=(i:Int))(hi:i<9223372036854775808):IntKind.wrap .i64 a=(i:Int):=by
 subst h
 exact IntWalk.i64_in _ ⟨by omega,by omega⟩
theorem ZBa{f:FuncId}{fn:Func}(g:List ResultVar){c:Code}{xs:List AV}{a:AV→Hp→Prop}(j:P.funcs[f]?=some fn)(i:fn.body=some c)(b:(fn.name== "runtime.NumGoroutine")=false)
  (k:fn.ntmps=n) (m:fn.results.toList=g) (hx:xs.length≤n) (h:∀B:Base,BP P l n B c (fins P l H g a) ⟨args xs,Dm l H⟩):Zc1 P f l xs H a:=by
 refine Zyc j i b k hx fun B=>H5 (h B) fun e σ d=>?_
 unfold xy
 rw[m]
 exact⟨d.he,d.hy⟩
theorem Fz.data{xs:List D}:Fz H' l (.agg (xs.map .d)) (.agg (xs.map .d)):=
 .agg _ _ rfl fun i x y hx hy=>by
  rw[hx]at hy;cases hy
  rw[YR]at hx
  cases hi:xs[i]? with
  |none=>rw[hi]at hx;cases hx
  |some d=>rw[hi]at hx;cases hx;exact .keep _ rfl
theorem Fz.pure{xs:List AV}{ds:List D}(h:Dy xs=some ds):Fz H' l (.agg xs) (.agg (ds.map .d)):=
 .agg _ _ (by rw[YG];exact kx h) fun i x y hx hy=>by
  rw[YR]at hy
  cases hi:ds[i]? with
  |none=>rw[hi]at hy;cases hy
  |some d=>
   rw[hi]at hy;cases hy
   have:=Zo8 h hx hi
   cases x<;>simp only[GJ]at this<;>cases this
   ·exact .keep _ rfl
   ·exact .e0
theorem Fz.d'{x:AV}{y:D}(h:x=.d y):Fz H' l x (.d y):=by subst h;exact .keep _ rfl
theorem Fz.two{x y x' e:AV}(hx:Fz H' l x x')(hy:Fz H' l y e):Fz H' l (DB [x,y]) (.tup [x',e]):=
 .tup _ _ rfl fun i a b c d=>by
  match i with
  |0=>cases c;cases d;exact hx
  |1=>cases c;cases d;exact hy
  |i+2=>simp at c
theorem Fz.one{x x':AV}(hx:Fz H' l x x'):Fz H' l (DB [x]) x':=hx
theorem RepA.nrm{S:Nat→Prop}{m:Mu}{w:World}{x:AV}{v:Value}(h:RepA w S H m l x v):RepA w S H m l (nrm x) v:=by
 cases x with
 |e0=>exact h.e0_d
 |agg xs=>
  cases h with
  |agg _ vs hx a h=>
   refine .agg _ _ (by simpa using hx) a (fun i y v hy b=>?_)
   rw[YR]at hy
   cases hi:xs[i]? with
   |none=>rw[hi]at hy;cases hy
   |some x=>
    rw[hi]at hy
    simp only[YY,Yj]at hy
    subst hy
    have:=h i x v hi b
    split
    ·exact this.e0_d
    grind
 |_=>exact h
theorem Zc1.nrm{f:FuncId}{xs:List AV}{a:AV→Hp→Prop}(h:Zc1 P f l (xs.map nrm) H a):Zc1 P f l xs H a:=
 ⟨h.1,fun m S w vs c b=>h.2 m S w vs c ⟨by simpa using b.1,fun i x v hx d=>by
  rw[YR]at hx
  cases hi:xs[i]? with
  |none=>rw[hi]at hx;cases hx
  |some y=>
   rw[hi]at hx
   simp only[YY,Yj]at hx
   subst hx
   exact(b.2 i y v hi d).nrm⟩⟩
end
def Qt:List Operand→List Nat
 |[]=>[]
 |.tmp t::r=>t::Qt r
 |_::r=>Qt r
def Mg:List (Option Nat)→Nat→Option Nat
 |[],_=>none
 |x::_,0=>x
 |_::r,i+1=>Mg r i
def FT(ds:List (Option Nat))(o:Oper):List Nat:=
 Qt o.op.operands.toList++match o.guard with
  |some (g,_)=>(match Mg ds g with|some d=>[d]|none=>[])
  |none=>[]
def FV:List (Nat×Nat)→Nat→Option Nat
 |[],_=>none
 |(d,k)::r,t=>match Nat.beq d t with|true=>some k|false=>FV r t
def Cf(o:Oper)(i:Nat):Bool:=o.after.toList.any fun e=>Region.binds .any e&&Nat.beq e.on i
def clear(o:Oper)(d:Nat):List (Nat×Nat)→Bool
 |[]=>true
 |(t,i)::r=>(match Nat.beq t d with|true=>Cf o i|false=>true)&&clear o d r
theorem ZnX{o:Oper}{d i:Nat}:∀{l:List (Nat×Nat)},clear o d l=true→(d,i)∈l→Cf o i=true
 |[],_,h=>by cases h
 |(t,j)::r,a,h=>by
  simp only[clear,Yc]at a
  rcases Yx.1 h with h|h
  ·cases h
   have:=a.1
   rw[SX]at this
   exact this
  ·exact ZnX a.2 h
def NS(ds:List (Option Nat)):Nat→List (Nat×Nat)→List (Nat×Nat)→List Oper→Bool
 |_,_,_,[]=>true
 |k,seen,a,o::r=>
  (o.after.toList.all fun e=>!Region.binds .any e||Nat.ble (e.on+1) k)&&
  ((FT ds o).all fun t=>match FV seen t with|some i=>Cf o i|none=>true)&&
  match o.dst with
  |some d=>(FV seen d).isNone&&clear o d a&&NS ds (k+1) ((d,k)::seen) ((FT ds o).map (·,k)++a) r
  |none=>NS ds (k+1) seen ((FT ds o).map (·,k)++a) r
def XB:List Oper→Bool
 |[]=>true
 |o::r=>(match o.op with|.select _ _=>false|_=>true)&&XB r
def Xe(ops:List Oper):Bool:=XB ops&&NS (ops.map (·.dst)) 0 [] [] ops
theorem Zrt(xs:List Operand):Qt xs=xs.filterMap fun|.tmp t=>some t|_=>none:=by
 induction xs with
 |nil=>rfl
 |cons x xs a=>cases x<;>simp[Qt,a]
theorem Zu6:∀(ds:List (Option Nat)) (i:Nat),Mg ds i=(ds[i]?).join
 |[],i=>by simp[Mg]
 |x::r,0=>by simp[Mg]
 |x::r,i+1=>by simp[Mg,Zu6 r i]
theorem Zob(ops:List Oper)(o:Oper):FT (ops.map (·.dst)) o=o.looksAt ops.toArray:=by
 unfold FT Oper.looksAt
 rw[Zrt]
 congr 1
 cases d:o.guard with
 |none=>rfl
 |some a=>
  obtain⟨g,b⟩:=a
  simp only
  rw[Zu6,YR]
  simp only[ri]
  cases ops[g]? with
  |none=>rfl
  |some c=>simp only[YY,Option.join_some,Ya];cases c.dst<;>rfl
structure FInv (ds:List (Option Nat)) (pre:List Oper) (seen:List (Nat×Nat)) (looked:List (Nat×Nat)):Prop where
 s1:∀d i,FV seen d=some i→∃o,pre[i]?=some o∧o.dst=some d
 s2:∀(i:Nat) (o:Oper) (d:Nat),pre[i]?=some o→o.dst=some d→FV seen d=some i
 lo:∀(i:Nat) (o:Oper),pre[i]?=some o→∀t∈FT ds o,(t,i)∈looked
def Wj(ds:List (Option Nat))(x y:Oper):Prop:=(∀d,x.dst=some d→d∉FT ds y∧y.dst≠some d)∧(∀d,y.dst=some d→d∉FT ds x)
theorem zp(ds:List (Option Nat)):∀(s pre:List Oper) (seen c:List (Nat×Nat)),FInv ds pre seen c→NS ds pre.length seen c s=true→
  ∀(j:Nat) (p:Oper),s[j]?=some p→(∀e∈p.after,Region.binds .any e=true→e.on<pre.length+j)∧
   ∀(i:Nat) (n:Oper),i<pre.length+j→(pre++s)[i]?=some n→Cf p i=true∨Wj ds n p
 |[],pre,seen,c,v,h,j,p,B=>by simp at B
 |o::r,pre,seen,c,v,h,j,p,B=>by
  simp only[NS,Yc]at h
  obtain⟨⟨H,I⟩,u⟩:=h
  cases j with
  |zero=>
   simp only[Gl,Yj]at B
   subst B
   refine⟨fun e he E=>?_,fun i n hi g=>?_⟩
   ·have:=Yu.1 H e (by simpa using he)
    simp only[E,YZ,Kc]at this
    have:=Yh this
    omega
   ·rw[Yp (by omega)]at g
    by_cases A:Cf o i=true
    ·exact .inl A
    ·right
     refine⟨fun d w=>⟨fun hm=>?_,fun k=>?_⟩,fun d w hm=>?_⟩
     ·have:=Yu.1 I d hm
      rw[v.s2 i n d g w]at this
      exact A this
     ·rw[k]at u
      simp only[Yc]at u
      have:=u.1.1
      rw[v.s2 i n d g w]at this
      cases this
     ·rw[w]at u
      simp only[Yc]at u
      exact A (ZnX u.1.2 (v.lo i n g d hm))
  |succ j=>
   simp only[L4]at B
   have q:∀(f:List (Nat×Nat)),(∀d i,FV f d=some i→∃m,(pre++[o])[i]?=some m∧m.dst=some d)→(∀(i:Nat) (m:Oper) (d:Nat),(pre++[o])[i]?=some m→m.dst=some d→FV f d=some i)→
     FInv ds (pre++[o]) f ((FT ds o).map (·,pre.length)++c):=fun f a b=>⟨a,b,fun i m g t G=>by
    rcases OB i pre.length with l|heq|C
    ·rw[Yp l]at g;exact rj _ (v.lo i m g t G)
    ·subst heq;simp at g;subst g;exact HS _ (YS.2 ⟨t,G,rfl⟩)
    ·rw[YM (by simp;omega)]at g;cases g⟩
   have fin:∀f,FInv ds (pre++[o]) f ((FT ds o).map (·,pre.length)++c)→NS ds (pre.length+1) f ((FT ds o).map (·,pre.length)++c) r=true→_:=fun f D K=>
    zp ds r (pre++[o]) f ((FT ds o).map (·,pre.length)++c) D (by simpa using K) j p B
   have conv:(∀e∈p.after,Region.binds .any e=true→e.on<(pre++[o]).length+j)∧(∀(i:Nat) (n:Oper),i<(pre++[o]).length+j→(pre++[o]++r)[i]?=some n→Cf p i=true∨Wj ds n p)→
     (∀e∈p.after,Region.binds .any e=true→e.on<pre.length+(j+1))∧(∀(i:Nat) (n:Oper),i<pre.length+(j+1)→(pre++o::r)[i]?=some n→Cf p i=true∨Wj ds n p):=by
    rintro⟨a,b⟩
    simp only[Yt,Fw,HN,D2,HM,Gj]at a b
    exact⟨fun e he E=>by have:=a e he E;omega,fun i n hi g=>b i n (by omega) g⟩
   split at u
   ·rename_i d w
    simp only[Yc]at u
    obtain⟨⟨F,L⟩,J⟩:=u
    have z:FV seen d=none:=by cases x:FV seen d with|none=>rfl|some i=>rw[x]at F;cases F
    refine conv (fin _ (q ((d,pre.length)::seen) (fun d' i x=>?_) (fun i m d' g k=>?_)) J)
    ·simp only[FV]at x
     split at x
     ·rename_i he;cases x;rw[←Yd he];exact⟨o,by simp,w⟩
     ·obtain⟨m,a,b⟩:=v.s1 d' i x
      refine⟨m,?_,b⟩
      rw[Yp];exact a
      rcases YF i pre.length with l|y
      ·exact l
      ·rw[YM y]at a;cases a
    ·simp only[FV]
     rcases OB i pre.length with l|heq|C
     ·rw[Yp l]at g
      have:=v.s2 i m d' g k
      split
      ·rename_i he
       rw[←Yd he,z]at this;cases this
      ·exact this
     ·subst heq;simp at g;subst g;rw[w]at k;cases k;simp
     ·rw[YM (by simp;omega)]at g;cases g
   ·rename_i w
    refine conv (fin _ (q seen (fun d' i x=>?_) (fun i m d' g k=>?_)) u)
    ·obtain⟨m,a,b⟩:=v.s1 d' i x
     refine⟨m,?_,b⟩
     rw[Yp];exact a
     rcases YF i pre.length with l|y
     ·exact l
     ·rw[YM y]at a;cases a
    ·rcases OB i pre.length with l|heq|C
     ·rw[Yp l]at g;exact v.s2 i m d' g k
     ·subst heq;simp at g;subst g;rw[w]at k;cases k
     ·rw[YM (by simp;omega)]at g;cases g
theorem Zk4{ops:List Oper}{x y:Oper}(h:Wj (ops.map (·.dst)) x y):x.apart ops.toArray y=true:=by
 obtain⟨a,c⟩:=h
 rw[Zob]at c
 have b:∀d,x.dst=some d→d∉y.looksAt ops.toArray∧y.dst≠some d:=fun d e=>by have:=a d e;rw[Zob]at this;exact this
 unfold Oper.apart
 grind
theorem zq{ops:Array Oper}(m:∀(j:Nat) (c:Oper),ops[j]?=some c→∀e∈c.after,Region.binds .any e=true→e.on<j)
  (n:∀(i j:Nat) (o c:Oper),i<j→ops[i]?=some o→ops[j]?=some c→Cf c i=true∨o.apart ops c=true):
  ∀(fuel k:Nat) (a:Array Bool),fuel+k=ops.size→a.size=ops.size→(∀j,j<ops.size→a[j]?=some (decide (j<k)))→Region.lexFrom .any ops fuel k a=true
 |0,k,a,q,hs,hl=>by
  simp only[Region.lexFrom]
  rw[List.isEmpty_iff,Region.ready,ah]
  intro i hi
  have hi:=SO.1 hi
  have:=hl i hi
  simp[Yy,this]
  omega
 |fuel+1,k,a,q,hs,hl=>by
  have g:k<ops.size:=by omega
  have b:ops[k]?=some ops[k]:=Yw g
  simp only[Region.lexFrom,Yc]
  refine⟨⟨?_,?_⟩,zq m n fuel (k+1) _ (by omega) (by simp[hs]) (fun j d=>?_)⟩
  ·rw[List.contains_iff_mem]
   unfold Region.ready
   refine Dp.2 ⟨SO.2 g,?_⟩
   rw[Yc]
   refine⟨by simp[Yy,hl k g],?_⟩
   rw[b]
   simp only[YY,YT]
   rw[Array.all_eq_true_iff_forall_mem]
   intro e he
   by_cases p:Region.binds .any e=true
   ·have:=m k _ b e he p
    simp[Yy,hl e.on (by omega),this]
   grind
  ·unfold Region.free
   rw[b]
   simp only[Yu,SO]
   intro j d
   rw[YH,YH]
   rcases OB j k with l|heq|f
   ·left;right;simp[Yy,hl j d,l]
   ·grind
   ·right
    rw[Yw d]
    simp only
    rw[YH]
    rcases n k j _ _ f b (Yw d)with h|h
    ·left
     unfold Cf at h
     obtain⟨e,he,h⟩:=YQ.1 h
     rw[←Array.any_toList]
     exact YQ.2 ⟨e,he,by simpa using h⟩
    grind
  grind
theorem zJ{ops:List Oper}(h:Xe ops=true):Region.lexB .any ops.toArray=true:=by
 unfold Xe at h
 rw[Yc]at h
 have g:∀(l:List Oper),XB l=true→l.all (fun o=>match o.op with|.select ..=>false|_=>true)=true:=fun l=>by
  induction l with
  |nil=>intro _;rfl
  |cons o l p=>
   intro m
   simp only[XB,Yc]at m
   grind
 have key:=zp (ops.map (·.dst)) ops [] [] [] ⟨fun d i k=>by simp[FV]at k,fun i o d e=>by simp at e,fun i o e=>by simp at e⟩ h.2
 simp only[HN,YP,Gj]at key
 unfold Region.lexB
 rw[Yc]
 refine⟨?_,zq (fun j f b=>(key j f (by simpa using b)).1) (fun i j n f c hi b=>?_) _ 0 _ rfl (by simp) (fun j b=>by simp at b⊢;simp[b])⟩
 ·unfold Region.noSelect
  grind
 ·rcases(key j f (by simpa using b)).2 i n c (by simpa using hi)with a|a
  ·grind
  ·exact .inr (Zk4 a)
end Go.Eng
