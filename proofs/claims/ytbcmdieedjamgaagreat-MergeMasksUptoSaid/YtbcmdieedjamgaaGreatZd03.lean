import Derived.Test.YtbcmdieedjamgaaGreatZd02
import Derived.KernelRfl
import Derived.Still
import Derived.IntWalk
import Derived.Test.YtbcmdieedjamgaaGreatZd00
namespace Go.Eng
set_option linter.all false
open Go Go.RowKit
def IZ(s:Nat→AV)(ds:List (Option Nat))(i:Nat)(b:Bool):Option Bool:=
 match ds[i]? with
 |some (some d)=>match s d with|.d (.bool t)=>some (t==b)|.tup []=>some false|_=>none
 |_=>none
def BI(P:Program)(l n:Nat)(B:Base)(c:Code)(Q:Exit→St→Prop)(σ:St):Prop:=
 ∀a w,R l n B σ a w→c.wp P (fun e d w'=>∃b,Q e b∧R l n B b d w') a w
def yC(K:St→Prop)(Q:Exit→St→Prop):Exit→St→Prop
 |.normal,σ=>K σ
 |e,σ=>Q e σ
def Vq(id:Nat)(Q:Exit→St→Prop):Exit→St→Prop
 |.exit i,σ=>if i=id then Q .normal σ else Q (.exit i) σ
 |e,σ=>Q e σ
section
variable {P:Program} {l n:Nat} {B:Base} {H H':Hp} {m m':Mu} {S S':Nat→Prop} {w w':World} {s:Nat→AV} {a:Act} {K:St→Prop} {o:Oper} {σ:St} {Q:Exit→St→Prop}
theorem ZoQ{xs ys:List AV}{vs d:Array Value}(h:Lm w S H m l xs vs)(k:Lm w S H m l ys d):Lm w S H m l (xs++ys) (vs++d):=by
 refine⟨by simp[h.1,k.1],fun i x v hx c=>?_⟩
 rcases YF i xs.length with b|a
 ·rw[Ys b]at hx
  rw[XR (by rw[←h.1];exact b)]at c
  exact h.2 i x v hx c
 ·rw[YC a]at hx
  rw[Array.getElem?_append_right (by rw[←h.1];exact a),←h.1]at c
  exact k.2 _ x v hx c
theorem Zoy{c:Call}{f:Operand}{g:FuncId}{first b:List AV}(O:o.op=.call c)(M:c.callee=.value f)(N:ev s f=.fn (.func g) first b)
  (h:Zc9 P g (l+1) (first++c.args.toList.map (ev s)++b) H (OK n o.dst K ⟨s,H⟩)):CS P l n B o K ⟨s,H⟩:=by
 intro a w L Q
 obtain⟨m,S,J,A,q,y,t⟩:=L.un
 obtain⟨⟨fn,cd,F,G,I⟩,h⟩:=h
 have j:=DR y f
 rw[N]at j
 generalize U:a.eval f=V at j
 cases j with
 |fn _ _ _ vs C hx hy D E=>
  have i:Lm w S H m (l+1) (first++c.args.toList.map (ev s)++b) (vs++c.args.map a.eval++C):=
   ZoQ (ZoQ ⟨hx,D⟩ (PY y c.args)) ⟨hy,E⟩
  have u:(execOp a.eval o).run P w=.ok (.enter g (vs++c.args.map a.eval++C)) w:=by
   unfold execOp
   simp only[O,resolve,M,U,Deferred.ofValue,Sem.run_bind,Sem.run_pure,Result.andThen_ok,invoke]
   exact Go.MuLone.run_callFunc_enter F I G _ w
  unfold Oper.wp
  rw[u]
  refine(h m S w _ J i).mono fun e w' ⟨r,v,H',m',S',he,k,p,T,x⟩=>?_
  subst he
  unfold OK Cz at k
  cases z:o.dst with
  |none=>
   rw[z]at k
   exact⟨_,k,R.keep p A q y t x⟩
  |some d=>
   rw[z]at k
   exact⟨_,k.2,R.step p A q y t x k.1 T⟩
theorem MW(h:Bw P l n o K σ):CS P l n B o K σ:=by
 obtain⟨s,H⟩:=σ
 unfold Bw at h
 split at h
 ·rename_i t a
  split at h
  ·rename_i d z b j;exact ZqY a b j h.1 h.2
  grind
 ·rename_i t x a
  split at h
  ·rename_i d z b j;exact ZGA a b j h.1 h.2
  grind
 ·rename_i t p x a
  split at h
  ·rename_i k g off vs b Q hx
   obtain⟨r,A,C,D,E,N,O⟩:=h
   exact ZsH a b Q hx r A C D E N O
  grind
 ·rename_i t len parts a
  split at h
  ·rename_i d e sz b he
   obtain⟨q,h⟩:=h
   split at h
   ·exact ZiX a b he q h.1 h.2.1 h.2.2
   ·rename_i len
    obtain⟨i,h⟩:=h
    split at h
    ·rename_i z j
     obtain⟨w,h⟩:=h
     split at h
     ·rename_i S u;exact Zhn a b he q i j w u h.1 h.2.1 h.2.2
     ·split at h
      ·rename_i cs u;exact Zga a b he q i j w u h
      grind
    grind
  grind
 ·rename_i t x y a
  split at h
  ·rename_i d e sz T c U R b he hx hy
   obtain⟨r,A,C,D,E,h⟩:=h
   split at h
   ·rename_i z j;exact Zxq a b he hx hy r A C D E j h.1 h.2
   grind
  grind
 ·rename_i c a
  split at h
  ·rename_i f F
   split at h
   ·rename_i g first G u;exact Zoy a F u h
   grind
  ·rename_i F
   split at h
   ·rename_i d x y t I b m v
    obtain⟨r,h⟩:=h
    have J:c.args=#[x,y]:=C5 (by simpa using m)
    have L:I=t:=by
     have:c.argTypes=#[t,I]:=C5 (by simpa using v)
     grind
    have M:c.argTypes=#[t,t]:=C5 (by rw[v,L])
    exact ZpI a F J M b h
   grind
  ·rename_i r A;exact UA h
 ·exact UA h
theorem Zk3{ops:Array Oper}(n:CN l s H m S a w){i:Nat}{b t:Bool}(h:IZ s (ops.toList.map (·.dst)) i b=some t):(yielded ops a.tmps i==some b)=t:=by
 unfold IZ at h
 split at h
 ·rename_i d f
  have e:=n d
  rw[YR,YD]at f
  cases j:ops[i]? with
  |none=>rw[j]at f;cases f
  |some o=>
   rw[j]at f
   simp only[YV,Yk]at f
   split at h
   ·rename_i q k
    simp only[Yk]at h
    subst h
    rw[k]at e
    have c:d<a.tmps.size:=by
     rcases YF d a.tmps.size with c|g
     ·exact c
     ·exfalso
      rw[Yz,Gv g]at e
      simp only[Option.getD_none]at e
      generalize p:undef=u at e
      cases e with
      |d _ _ f=>cases f;cases p
    unfold yielded
    rw[j]
    simp only[Ya,f,Yv c]
    rw[Yz,Yv c]at e
    simp only[YQ]at e
    generalize a.tmps[d]=v at e
    cases e with
    |d _ _ f=>cases f;cases q<;>cases b<;>rfl
   ·rename_i k
    simp only[Yk]at h
    subst h
    rw[k]at e
    unfold yielded
    rw[j]
    simp only[Ya,f]
    rcases YF d a.tmps.size with c|g
    ·simp only[Yv c]
     rw[Yz,Yv c]at e
     simp only[YQ]at e
     generalize a.tmps[d]=v at e
     cases e with
     |tup _ _ _ _=>rfl
    grind
   ·cases h
 ·cases h
theorem eL{ops:Array Oper}{b:List Oper}{KK:St→Prop}{QQ:Exit→Act→World→Prop}(p:Region.wanted o (yielded ops a.tmps)=true)(h:CS P l n B o KK σ)(m:R l n B σ a w)
  (k:∀d j w',KK d→R l n B d j w'→wpList P ops QQ b j w'):wpList P ops QQ (o::b) a w:=by
 unfold wpList
 rw[Yj p]
 refine .inl ?_
 have:=h a w m QQ
 unfold Oper.wp at this⊢
 revert this
 generalize (execOp a.eval o).run P w=r
 have mono:∀(r:Result Next),o.upon P a (fun j w'=>∃d,KK d∧R l n B d j w') QQ r→o.upon P a (wpList P ops QQ b) QQ r:=by
  intro r h
  cases r with
  |ok x q=>
   cases x<;>first
    |exact h
    |(simp only[Oper.upon]at h⊢;obtain⟨d,g,i⟩:=h;exact k d _ _ g i)
    |skip
   ·rename_i f args
    simp only[Oper.upon]at h⊢
    refine Calls.mono h fun e w2 he=>?_
    cases e with
    |returned v=>obtain⟨d,g,i⟩:=he;exact k d _ _ g i
    |panicked c=>exact he
    |outgrown=>exact he
   ·rename_i row args
    simp only[Oper.upon]at h⊢
    exact Rows.mono h fun v w2 ⟨d,g,i⟩=>k d _ _ g i
  |halt x q=>cases x<;>exact h
 exact mono r
theorem R.undef{d:Nat}(f:R l n B σ a w)(j:d<n):R l n B ⟨upd σ.s d (.tup []),σ.H⟩ (a.put (some d) undef) w:=by
 obtain⟨s,H⟩:=σ
 obtain⟨m,S,e,k,b,g,c⟩:=f.un
 exact R.step e k b g c (Ext.refl _ _ _ _ _) j (.tup [] #[] rfl (fun i x v h=>by simp at h))
theorem HZ{c:Code}{b:Exit→St→Prop}(h:BI P l n B c Q σ)(i:∀e σ,Q e σ→b e σ):BI P l n B c b σ:=
 fun a w g=>wp_mono (h a w g) fun _ _ _ ⟨j,d,f⟩=>⟨j,i _ _ d,f⟩
theorem Zwn(h:Q .normal σ):BI P l n B .skip Q σ:=fun _ _ a=>wp_skip ⟨σ,h,a⟩
theorem ZGV(h:Q .ret σ):BI P l n B .ret Q σ:=fun _ _ a=>wp_ret ⟨σ,h,a⟩
theorem Zwl{id:Nat}(h:Q (.exit id) σ):BI P l n B (.exit id) Q σ:=fun _ _ a=>wp_exit ⟨σ,h,a⟩
theorem ZI1{x y:Code}(h:∀K:St→Prop,(∀b,BI P l n B y Q b→K b)→BI P l n B x (yC K Q) σ):BI P l n B (.seq x y) Q σ:=by
 intro a w i
 refine wp_seq (wp_mono (h _ (fun _ h=>h) a w i) fun e g w' ⟨b,d,f⟩=>?_)
 cases e with
 |normal=>exact d g w' f
 |exit id=>exact⟨b,d,f⟩
 |goto id=>exact⟨b,d,f⟩
 |ret=>exact⟨b,d,f⟩
 |panic c=>exact⟨b,d,f⟩
 |outgrown=>exact⟨b,d,f⟩
theorem ZG0(b:R l n B σ a w){c:Operand}{t:Bool}(h:ev σ.s c=.d (.bool t)):a.eval c=.bool t:=by
 obtain⟨s,H⟩:=σ
 obtain⟨m,S,j,k,g,e,i⟩:=b.un
 have:=DR e c
 rw[show ev s c=.d (.bool t)from h]at this
 generalize a.eval c=v at this
 cases this with
 |d _ _ f=>cases f;rfl
theorem PH{c:Operand}{x y:Code}{t:Bool}(g:ev σ.s c=.d (.bool t))(d:t=true→BI P l n B x Q σ)(f:t=false→BI P l n B y Q σ):BI P l n B (.cond c x y) Q σ:=
 fun a w b=>wp_cond_split (ZG0 b g) (fun e=>d e a w b) (fun e=>f e a w b)
theorem ZlG{id:Nat}{c:Code}(h:BI P l n B c (Vq id Q) σ):BI P l n B (.block id c) Q σ:=by
 intro a w g
 refine wp_block (wp_mono (h a w g) fun e j w' ⟨f,b,d⟩=>?_)
 cases e with
 |exit i=>
  unfold Vq at b
  unfold Exit.inBlock
  grind
 |normal=>exact⟨f,b,d⟩
 |goto id=>exact⟨f,b,d⟩
 |ret=>exact⟨f,b,d⟩
 |panic c=>exact⟨f,b,d⟩
 |outgrown=>exact⟨f,b,d⟩
end
end Go.Eng
namespace Go.Eng
set_option linter.all false
open Go Go.RowKit
def args(xs:List AV):Nat→AV:=fun i=>(xs[i]?).getD .top
def Df(l:Nat)(H:Hp):Hp:=fun k=>if k.1≤l then H k else⟨0,false,0,0,[]⟩
def I0(l:Nat)(H' H:Hp):Hp:=fun k=>if k.1≤l then H' k else H k
def EM(P:Program)(σ:St):List ResultVar→(List AV→Prop)→Prop
 |[],K=>K []
 |.tmp t::b,K=>EM P σ b (fun xs=>K (σ.s t::xs))
 |.cell a t::b,K=>EJ P σ.H t (σ.s a) (fun x=>EM P σ b (fun xs=>K (x::xs)))
def DJ:List AV→AV
 |[x]=>x
 |xs=>.tup xs
inductive Fz (H:Hp) (l:Nat):AV→AV→Prop
 |keep (x:AV) (h:x.low l=true):Fz H l x x
 |e0:Fz H l .e0 (.d (.list []))
 |mp (k:Ad) (a:Bool) (es:List (List D)) (hk:k.1=l+1) (hl:(H k).live=true) (he:(H k).e=.m a es):Fz H l (.mp k (H k).g) (.d (.map a es))
 |ref (k:Ad) (off n:Nat) (es:List (List D)) (hk:k.1=l+1) (hl:(H k).live=true) (hn:es.length=n) (hz:(H k).sz≠0) (he:∀e,e∈es→e.length=(H k).sz)
   (hlen:(off+n)*(H k).sz≤(H k).cells.length)
   (h:∀(i j:Nat) (e:List D) (d:D) (x:AV),es[i]?=some e→e[j]?=some d→(H k).cells[(off+i)*(H k).sz+j]?=some x→Fz H l x (.d d)):
   Fz H l (.ref k (H k).g off n) (.d (.list es))
 |agg (xs ys:List AV) (hl:xs.length=ys.length) (h:∀(i:Nat) (x y:AV),xs[i]?=some x→ys[i]?=some y→Fz H l x y):Fz H l (.agg xs) (.agg ys)
 |tup (xs ys:List AV) (hl:xs.length=ys.length) (h:∀(i:Nat) (x y:AV),xs[i]?=some x→ys[i]?=some y→Fz H l x y):Fz H l (.tup xs) (.tup ys)
def ZXs(P:Program)(fn:Func)(l:Nat)(H:Hp)(a:AV→Hp→Prop):Exit→St→Prop:=fun e σ=>
 (e=.normal∨e=.ret)∧EM P σ fn.results.toList (fun xs=>∃y,Fz σ.H l (DJ xs) y∧a y (I0 l σ.H H))
section
variable {P:Program} {l n:Nat} {B:Base} {H H':Hp} {m m':Mu} {S S':Nat→Prop} {w w':World} {s:Nat→AV} {a:Act} {K:St→Prop} {o:Oper} {σ:St} {Q:Exit→St→Prop}
theorem ZpR{t:TypeId}{v b:Value}(h:(Instr.loadAt t v).run P w=.ok b w):(do loadVar t (←asAddr v):Sem Value).run P w=.ok b w:=by
 cases v<;>try (simp[Instr.loadAt,Instr.sureAddr]at h;done)
 rename_i p
 cases p with
 |none=>simp[Instr.loadAt,Instr.sureAddr]at h
 |some a=>simpa[Instr.loadAt,Instr.sureAddr,asAddr]using h
def OT(tmps:Array Value):ResultVar→Sem Value
 |.tmp t=>pure (tmps.getD t undef)
 |.cell p t=>do loadVar t (←asAddr (tmps.getD p undef))
theorem fe(k:Ok (l+1) H m S w)(c:CN (l+1) s H m S a w):∀(rs:List ResultVar) (K:List AV→Prop),EM P ⟨s,H⟩ rs K→
  ∃(vs:List Value) (xs:List AV),(rs.mapM (OT a.tmps)).run P w=.ok vs w∧xs.length=vs.length∧
   (∀(i:Nat) (x:AV) (v:Value),xs[i]?=some x→vs[i]?=some v→RepA w S H m (l+1) x v)∧K xs
 |[],K,h=>⟨[],[],by simp,rfl,fun i x v h=>by simp at h,h⟩
 |.tmp t::b,K,h=>by
  obtain⟨vs,xs,f,g,n,j⟩:=fe k c b _ h
  refine⟨a.tmps.getD t undef::vs,s t::xs,by simp only[R5,OT,Sem.run_bind,Sem.run_pure,Result.andThen_ok,f],by simp[g],fun i x v hx d=>?_,j⟩
  cases i with
  |zero=>simp at hx d;subst hx;subst d;simpa using c t
  |succ i=>exact n i x v (by simpa using hx) (by simpa using d)
 |.cell p t::b,K,h=>by
  obtain⟨v0,r,o,u,q⟩:=Zh1 h (c p) k
  obtain⟨vs,xs,f,g,n,j⟩:=fe k c b _ q
  refine⟨v0::vs,r::xs,?_,by simp[g],fun i x v hx d=>?_,j⟩
  ·have:=ZpR o
   have e:(OT a.tmps (.cell p t)).run P w=.ok v0 w:=this
   simp only[R5,Sem.run_bind,e,Sem.run_pure,Result.andThen_ok,f]
  grind
def NG(l:Nat)(H:Hp)(m:Mu)(S:Nat→Prop):Nat→Prop:=fun b=>S b∨∃k:Ad,k.1=l+1∧(H k).live=true∧((m k).cap≠0∨(H k).e.isO=true)∧b=(m k).b
theorem Ok.fin(h:Ok (l+1) H m S w):Ok l H m (NG l H m S) w∧Ext l H m S w H m (NG l H m S) w:=by
 have n:Ext (l+1) H m S w H m (NG l H m S) w:=⟨fun _ h=>.inl h,fun _ _=>rfl,fun _ _=>Yf _,fun _ _ _ h=>⟨h,rfl,rfl⟩,rfl,rfl,rfl,Yf _⟩
 refine⟨⟨fun b c=>?_,fun q u=>h.empty q (by omega),fun q u hl g=>?_,fun q z u y=>h.inj q z (by omega) (by omega),fun q u hl g=>?_,
  ⟨fun k p j=>(h.mp.o k (by omega) j).mono (fun _ h=>.inl h) (fun _ _=>rfl) (fun _=>rfl),fun k p j he=>?_,fun k k' p s=>h.mp.i k k' (by omega) (by omega)⟩⟩,n.mono (by omega)⟩
 ·rcases c with c|⟨k,p,hl,g,rfl⟩
  ·exact h.sub b c
  ·rcases g with g|g
   ·obtain⟨C,c,_⟩:=h.blk k (by omega) hl g
    grind
   ·obtain⟨o,c,_⟩:=(h.mp.o k (by omega) hl).at g
    grind
 ·rintro(hs|⟨k,p,f,a,e⟩)
  ·exact h.fresh q (by omega) hl g hs
  ·rcases a with a|a
   ·have:=h.inj q k (by omega) (by omega) hl f g a e
    grind
   ·obtain⟨o,c,r⟩:=(h.mp.o k (by omega) f).at a
    obtain⟨C,d,_⟩:=h.blk q (by omega) hl g
    rw[e,c]at d;cases d;cases r
 ·obtain⟨C,c,hs,t,hx⟩:=h.blk q (by omega) hl g
  exact⟨C,c,hs,t,fun i x v hi j=>⟨(hx i x v hi j).1,(hx i x v hi j).2.ext n (by omega)⟩⟩
 ·refine⟨(h.mp.c k (by omega) j he).1,?_⟩
  rintro(hs|⟨k',s,f,a,e⟩)
  ·exact(h.mp.c k (by omega) j he).2 hs
  ·rcases a with a|a
   ·obtain⟨o,c,r⟩:=(h.mp.o k (by omega) j).at he
    obtain⟨C,d,_⟩:=h.blk k' (by omega) f a
    rw[←e,c]at d;cases d;cases r
   ·have:=h.mp.i k k' (by omega) (by omega) j f he a e
    grind
theorem Fz.sound{x y:AV}(h:Fz H l x y)(Q:Ok (l+1) H m S w):∀{v:Value},RepA w S H m (l+1) x v→RepA w (NG l H m S) H m l y v:=by
 have t:Ext (l+1) H m S w H m (NG l H m S) w:=⟨fun _ h=>.inl h,fun _ _=>rfl,fun _ _=>Yf _,fun _ _ _ h=>⟨h,rfl,rfl⟩,rfl,rfl,rfl,Yf _⟩
 induction h with
 |keep x h=>exact fun hx=>(hx.ext t (Yf _)).low h
 |e0=>
  intro v hx
  cases hx with
  |e0 N=>exact(RepA.e0 N).e0_d
 |mp k a es I hl he=>
  intro v hx
  generalize F:(H k).g=g at hx
  cases hx with
  |mpD _ _ _ p G s o=>rw[s F.symm]at hl;cases hl
  |mpL _ p q=>
   have U:=Q.mp.o k (by omega) hl
   rw[he]at U
   obtain⟨ents,A,o,O⟩:=U
   exact .d _ _ (.ofM (.inr ⟨k,I,hl,.inr (by rw[he];rfl),rfl⟩) o (O.mono (fun _ h=>.inl h) (fun _ _=>rfl)))
 |ref k off n es I hl J hz he f h u=>
  intro v hx
  generalize F:(H k).g=g at hx
  cases hx with
  |refD _ _ _ _ _ p G s o=>rw[s F.symm]at hl;cases hl
  |refL _ _ _ N p q T R=>
   by_cases K:n=0
   ·subst K
    have:es=[]:=Jb J
    subst this
    cases N with
    |none=>
     have e:(m k).cap-off=0:=by
      rcases YF off (m k).cap with h|h
      ·have:=R h;cases this
      ·omega
     rw[e]
     exact .d _ _ .nil
    |some ad=>exact .d _ _ (.list [] ad 0 _ (fun _ _=>.bool true) (fun h=>absurd rfl h) (Cj _) (fun _ h=>by cases h) (fun i j e x h=>by simp at h) (fun i j e x h=>by simp at h))
   ·have L:=R (by omega)
    subst L
    obtain⟨E,C,o,O,Z,P⟩:=Q.row (k:=k) (by omega) hl (by
     intro e
     rw[e,YZ]at f
     have:=Sj (show 0<n by omega) (show 0<(H k).sz by omega)
     simp at f
     omega)
    have r:∀(i j:Nat) (e:List D) (d:D),es[i]?=some e→e[j]?=some d→(off+i)*(H k).sz+j<(H k).cells.length:=by
     intro i j e d hi c
     have W:i<n:=by
      rw[←J]
      rcases YF i es.length with h|h
      ·exact h
      ·rw[YM h]at hi;cases hi
     have X:j<(H k).sz:=by
      rw[←he e (Yi hi)]
      rcases YF j e.length with h|h
      ·exact h
      ·rw[YM h]at c;cases c
     have:(off+i+1)*(H k).sz≤(off+n)*(H k).sz:=D9 _ (by omega)
     rw[YZ (off+i)]at this
     omega
    have:=RepD.list (w:=w) (S:=NG l H m S) es ⟨(m k).b,(m k).o+off*(H k).sz,none⟩ (H k).sz ((m k).cap-off) (fun i j=>(C[(m k).o+((off+i)*(H k).sz+j)]?).getD undef)
     (fun _=>.inr ⟨k,I,hl,.inl E,rfl⟩) (by omega) he
     (fun i j e d hi c=>by
      obtain⟨v,z,_,_⟩:=P _ _ (Yc (r i j e d hi c))
      rw[Addr.add_lit,JO o,z]
      rw[show(m k).o+off*(H k).sz+(i*(H k).sz+j)=(m k).o+((off+i)*(H k).sz+j)from by rw[YZ];omega,z]
      rfl)
     (fun i j e d hi c=>by
      obtain⟨v,z,Y,V⟩:=P _ _ (Yc (r i j e d hi c))
      rw[z]
      have:=u i j e d _ hi c (Yc (r i j e d hi c)) V
      cases this with
      |d _ _ s=>exact s)
    rw[J]at this
    exact .d _ _ this
 |agg xs ys hl h u=>
  intro v hx
  cases hx with
  |agg _ vs q o B=>
   refine .agg _ _ (by omega) o (fun i y v hy M=>?_)
   have b:i<xs.length:=by
    rw[hl]
    rcases YF i ys.length with h|h
    ·exact h
    ·rw[YM h]at hy;cases hy
   exact u i _ y (Yc b) hy (B i _ v (Yc b) M)
 |tup xs ys hl h u=>
  intro v hx
  cases hx with
  |tup _ vs q B=>
   refine .tup _ _ (by omega) (fun i y v hy M=>?_)
   have b:i<xs.length:=by
    rw[hl]
    rcases YF i ys.length with h|h
    ·exact h
    ·rw[YM h]at hy;cases hy
   exact u i _ y (Yc b) hy (B i _ v (Yc b) M)
theorem ZjC{fn:Func}{KK:List AV→Prop}(j:Ok (l+1) H m S w)(k:CN (l+1) s H m S a w)(h:EM P ⟨s,H⟩ fn.results.toList KK):
  ∃v xs,(results fn a.tmps).run P w=.ok v w∧RepA w S H m (l+1) (DJ xs) v∧KK xs:=by
 obtain⟨vs,xs,d,c,b,g⟩:=fe j k _ _ h
 have o:∀f:ResultVar→Sem Value,(∀r,f r=OT a.tmps r)→(fn.results.mapM f).run P w=.ok vs.toArray w:=by
  intro f n
  have:f=OT a.tmps:=funext n
  subst this
  rw[kW]
  simp[d]
 refine⟨if h:vs.toArray.size=1 then vs.toArray[0]else .tuple vs.toArray,xs,?_,?_,g⟩
 ·unfold results
  simp only[Sem.run_bind]
  rw[o _ (fun r=>by cases r<;>rfl)]
  simp
 ·match xs,vs,c,b with
  |[x],[v],_,b=>exact b 0 x v rfl rfl
  |[],[],_,_=>exact .tup _ _ rfl (fun i x v h=>by simp[DJ]at h)
  |x::x'::xs,v::q::vs,c,b=>
   have e:¬((v::q::vs).toArray.size=1):=by simp
   rw[dif_neg e]
   exact .tup _ _ (by simpa using c) (fun i x v hx p=>b i x v hx (by simpa using p))
theorem Zzj{P:Program}{f:FuncId}{fn:Func}{c:Code}{n l:Nat}{xs:List AV}{H:Hp}{s:AV→Hp→Prop}(hf:P.funcs[f]?=some fn)(hb:fn.body=some c)(G:(fn.name== "runtime.NumGoroutine")=false)
  (hn:fn.ntmps=n) (hx:xs.length≤n) (h:∀B:Base,BI P l n B c (ZXs P fn l H s) ⟨args xs,Df l H⟩):Zc9 P f l xs H s:=by
 refine⟨⟨fn,c,hf,hb,G⟩,fun m S w vs K j=>?_⟩
 have a:∀k:Ad,k.1≤l→Df l H k=H k:=fun k g=>by unfold Df;rw[Yj g]
 have hdead:∀k:Ad,¬k.1≤l→(Df l H k).live=false:=fun k g=>by unfold Df;rw[Ym g]
 have u:∀k:Ad,(Df l H k).live=true→k.1≤l:=fun k hl=>by
  grind
 have X:Ok (l+1) (Df l H) m S w:=by
  refine⟨K.sub,fun q d hl o=>?_,fun q d hl o=>?_,fun q M d I hl t o J heq=>?_,fun q d hl o=>?_,
   K.mp.stepL (fun q _ hl _=>by have:=u q hl;rw[a q this]at hl⊢;exact⟨this,hl,rfl,rfl⟩) (fun _ h=>h) (fun _ h=>.inl h) (fun _ _=>rfl) (fun _ _ h _=>h)⟩
  ·have:=u q hl;rw[a q this]at hl⊢;exact K.empty q this hl o
  ·have:=u q hl;rw[a q this]at hl;exact K.fresh q this hl o
  ·have e:=u q hl
   have e':=u M t
   rw[a q e]at hl;rw[a M e']at t
   exact K.inj q M e e' hl t o J heq
  ·have e:=u q hl
   rw[a q e]at hl⊢
   obtain⟨C,U,V,W,T⟩:=K.blk q e hl o
   exact⟨C,U,V,W,fun i x v hi O=>⟨(T i x v hi O).1,(T i x v hi O).2.agree (fun k g=>a k (by omega)) (fun _ _=>rfl)⟩⟩
 have hE:Ext l H m S w (Df l H) m S w:=⟨fun _ h=>h,fun _ _=>rfl,fun k g=>by rw[a k g];exact Yf _,fun k g _ hl=>by rw[a k g]at hl⊢;exact⟨hl,rfl,rfl⟩,rfl,rfl,rfl,Yf _⟩
 have hR:R l n ⟨H,m,S,w⟩ ⟨args xs,Df l H⟩ {tmps:=vs++Array.replicate (fn.ntmps-vs.size) undef,defers:=[] } w:=by
  refine⟨m,S,X,by simp[hn];rw[←j.1];omega,rfl,fun i=>?_,hE⟩
  simp only[args]
  cases hi:xs[i]? with
  |none=>exact .top _
  |some x=>
   have hlt:i<xs.length:=by
    grind
   have D:i<vs.size:=by rw[←j.1];exact hlt
   rw[Yz,XR D,Yv D]
   exact((j.2 i x _ hi (Yv D)).agree (fun k g=>a k g) (fun _ _=>rfl)).lvl (Nat.le_succ l)
 refine calls_of_wp hf hb (wp_mono (h ⟨H,m,S,w⟩ _ w hR) fun e a' w' ⟨σ',d,Y⟩=>?_)
 obtain⟨s',H'⟩:=σ'
 obtain⟨m',S',A,hn',hd',Z,N⟩:=Y.un
 have done:EM P ⟨s',H'⟩ fn.results.toList (fun xs=>∃y,Fz H' l (DJ xs) y∧s y (I0 l H' H))→a'.defers=[]∧∃v,(results fn a'.tmps).run P w'=.ok v w'∧
   (∃r Q p E z,Ending.returned v=.returned Q∧s r p∧Ok l p E z w'∧RepA w' z p E l r Q∧Ext l H m S w p E z w'):=by
  intro hr
  obtain⟨v,xs,U,V,y,W,T⟩:=ZjC A Z hr
  obtain⟨L,k2⟩:=A.fin
  have b:∀k:Ad,k.1≤l→I0 l H' H k=H' k:=fun k g=>by unfold I0;rw[Yj g]
  refine⟨hd',v,U,y,v,I0 l H' H,m',_,rfl,T,?_,(W.sound A V).agree b (fun _ _=>rfl),?_⟩
  ·refine⟨L.sub,fun q d hl o=>?_,fun q d hl o=>?_,fun q M d I hl t o J heq=>?_,fun q d hl o=>?_,
    L.mp.step (Yf _) (fun q d hl _=>by rw[b q d]at hl⊢;exact⟨hl,rfl,rfl⟩) (fun _ h=>h) (fun _ h=>.inl h) (fun _ _=>rfl) (fun _ _ h _=>h)⟩
   ·rw[b q d]at hl⊢;exact L.empty q d hl o
   ·rw[b q d]at hl;exact L.fresh q d hl o
   ·rw[b q d]at hl;rw[b M I]at t;exact L.inj q M d I hl t o J heq
   ·rw[b q d]at hl⊢
    obtain⟨C,g1,g2,g3,g4⟩:=L.blk q d hl o
    exact⟨C,g1,g2,g3,fun i x v hi O=>⟨(g4 i x v hi O).1,(g4 i x v hi O).2.agree (fun k g=>b k (by omega)) (fun _ _=>rfl)⟩⟩
  ·have F:=Ext.trans (show Ext l H m S w H' m' S' w' from N) k2
   exact⟨F.s,F.blk,fun k g=>by rw[b k g];exact F.g k g,fun k g hg hl=>by rw[b k g]at hg hl⊢;exact F.live k g hg hl,F.os,F.tape,F.output,F.size⟩
 rcases d.1 with rfl|rfl
 ·exact done d.2
 ·exact done d.2
end
section
variable {P:Program} {l n:Nat} {ds:List (Option Nat)} {ops rest:List Oper} {K:St→Prop} {s:Nat→AV} {H:Hp} {d:Option Nat} {op:Op} {ty:TypeId} {ps:String} {af:Array Edge} {g:Option (Nat×Bool)}
variable {x y:Operand} {t:TypeId}
theorem iW{l:Nat}{H:Hp}{k:Ad}(h:k.1≤l):Df l H k=H k:=by unfold Df;rw[Yj h]
theorem ZI2{l:Nat}{H:Hp}{i:Nat}:Df l H (l+1,i)=⟨0,false,0,0,[]⟩:=by unfold Df;rw[Ym (by simp)]
end
def Cv(o:Oper):Bool:=o.dst.isSome&&match o.op with
 |.call c=>match c.callee with
  |.value _=>true
  |.builtin .len|.builtin .min|.builtin .max=>true
  |_=>false
 |.binOp _ _ _ y _=>!JT y
 |.alloc _|.box _ _|.store _ _ _|.buildSlice _ _ _|.makeSlice _ _ _|.makeMap _ _|.range _ _|.next _ _|.entry _=>false
 |_=>true
def b8(o:Oper):Bool:=match o.op with
 |.buildSlice _ (_+1) _=>true
 |_=>false
def CU(o:Oper):Bool:=Cv o||(o.dst.isSome&&b8 o)
def ZXS(P:Program)(t:TypeId)(len:Nat)(ps:List (Nat×AV))(v:AV):Prop:=
 ∃e sz z es,elm P t=some (e,sz)∧sz≠0∧(len+1)*sz≤16777216∧zer P e=some z∧z.length=sz∧Gh sz 0 ps=some es∧es.length=len+1∧v=.d (.list es)
def qV(P:Program)(l:Nat)(H:Hp)(o:Oper)(ρ:Operand→AV)(v:AV):Prop:=
 match o.op with
 |.buildSlice t (len+1) parts=>ZXS P t len (parts.toList.map fun p=>(p.1,ρ p.2)) v
 |.call c=>match c.callee with
  |.value f=>match ρ f with
   |.fn (.func g) first a=>Zc9 P g (l+1) (first++c.args.toList.map ρ++a) H (fun y b=>y=v∧b=H)
   |_=>False
  |_=>A1 P H o.op ρ (fun y=>y=v)
 |_=>A1 P H o.op ρ (fun y=>y=v)
def Gj(P:Program)(l n:Nat)(o:Oper)(K:St→Prop)(σ:St):Prop:=
 match o.op with
 |.buildSlice t (len+1) parts=>∃v,ZXS P t len (parts.toList.map fun p=>(p.1,ev σ.s p.2)) v∧Cz n o.dst K σ v
 |.call c=>match c.callee with
  |.value f=>match ev σ.s f with
   |.fn (.func g) first a=>∃r,Zc9 P g (l+1) (first++c.args.toList.map (ev σ.s)++a) σ.H (fun y b=>y=r∧b=σ.H)∧Cz n o.dst K σ r
   |_=>False
  |_=>Bw P l n o K σ
 |_=>Bw P l n o K σ
def D0(P:Program)(l n:Nat)(ds:List (Option Nat)):List Oper→(St→Prop)→St→Prop
 |[],K,σ=>K σ
 |o::a,K,σ=>match o.guard with
  |none=>Gj P l n o (D0 P l n ds a K) σ
  |some (i,b)=>match IZ σ.s ds i b with
   |some t=>(t=true→Gj P l n o (D0 P l n ds a K) σ)∧(t=false→match o.dst with|some d=>d<n∧D0 P l n ds a K ⟨upd σ.s d (.tup []),σ.H⟩|none=>False)
   |none=>False
section
variable {P:Program} {l n:Nat} {B:Base} {H:Hp} {K K':AV→Prop} {t:TypeId} {x y:AV} {ρ ρ':Operand→AV}
theorem Zle{op:BinOp}{k:IntKind}{a b:Int}(h:∀v,K v→K' v)(c:GU op k a b K):GU op k a b K':=by
 cases op<;>simp only[GU]at c⊢<;>first|exact h _ c|exact⟨c.1,h _ c.2⟩|exact c
theorem Zln{op:BinOp}{a b:ByteArray}(h:∀v,K v→K' v)(c:GS op a b K):GS op a b K':=by
 cases op<;>simp only[GS]at c⊢<;>first|exact h _ c|exact⟨c.1,h _ c.2⟩|exact c
theorem Zx7{op:BinOp}{k:IntKind}{a b:Int}(c:GU op k a b K):∃v,GU op k a b (fun y=>y=v)∧K v:=by
 cases op<;>simp only[GU]at c⊢<;>first|exact⟨_,rfl,c⟩|exact⟨_,⟨c.1,rfl⟩,c.2⟩|exact c.elim
theorem ZwD{op:BinOp}{a b:ByteArray}(c:GS op a b K):∃v,GS op a b (fun y=>y=v)∧K v:=by
 cases op<;>simp only[GS]at c⊢<;>first|exact⟨_,rfl,c⟩|exact⟨_,⟨c.1,rfl⟩,c.2⟩|exact c.elim
theorem Zq4(h:EJ P H t x K):∃v,EJ P H t x (fun y=>y=v)∧K v:=by
 unfold EJ at h⊢
 split at h
 ·grind
 ·grind
 grind
theorem ZiR{i:Nat}(h:Ff P H t i x K):∃v,Ff P H t i x (fun y=>y=v)∧K v:=by
 unfold Ff at h⊢
 grind
theorem Zp9{i:Nat}(h:Fj P t i x K):∃v,Fj P t i x (fun y=>y=v)∧K v:=by
 unfold Fj at h⊢
 split at h
 ·split at h
  ·grind
  grind
 grind
theorem ZiY(h:EB P H t x y K):∃v,EB P H t x y (fun y=>y=v)∧K v:=by
 unfold EB at h⊢
 grind
theorem Zpi(h:FX P t x y K):∃v,FX P t x y (fun y=>y=v)∧K v:=by
 unfold FX at h⊢
 grind
theorem Zx3{op:BinOp}{xs ys:List AV}(h:HF P op t xs ys K):∃v,HF P op t xs ys (fun y=>y=v)∧K v:=by
 unfold HF at h⊢
 split at h
 ·grind
 grind
theorem ZyC{op:BinOp}(h:CI P H op t false x y K):∃v,CI P H op t false x y (fun y=>y=v)∧K v:=by
 unfold CI at h⊢
 split at h
 ·obtain⟨v,a,b⟩:=Zx7 h.2;exact⟨v,⟨h.1,a⟩,b⟩
 ·exact ZwD h
 ·grind
 ·exact Zx3 h
 ·cases h.1
 grind
theorem ZGc{op:UnOp}(h:EX op x K):∃v,EX op x (fun y=>y=v)∧K v:=by
 unfold EX at h⊢
 grind
theorem ZtN{u:TypeId}(h:Fk P t u x K):∃v,Fk P t u x (fun y=>y=v)∧K v:=by
 unfold Fk at h⊢
 grind
theorem Zqm{lo hi:Option AV}{a:Bool}(h:EF P H t x lo hi a K):∃v,EF P H t x lo hi a (fun y=>y=v)∧K v:=by
 unfold EF at h⊢
 grind
theorem Zx6(h:DX P H t x K):∃v,DX P H t x (fun y=>y=v)∧K v:=by
 unfold DX at h⊢
 grind
theorem Zpf{ps:List (Nat×AV)}(h:FY P t ps K):∃v,FY P t ps (fun y=>y=v)∧K v:=by
 unfold FY at h⊢
 grind
theorem ZGR{op:Op}(g:∀o t x y u,op=.binOp o t x y u→JT y=false)(h:A1 P H op ρ K):∃v,A1 P H op ρ (fun y=>y=v)∧K v:=by
 cases op<;>simp only[A1]at h⊢<;>try exact h.elim
 case move x=>exact⟨_,rfl,h⟩
 case assign x=>exact⟨_,rfl,h⟩
 case pick c a b=>
  split at h
  ·grind
  ·grind
 case load=>exact Zq4 h
 case fieldAddr=>exact ZiR h
 case field=>exact Zp9 h
 case indexAddr=>exact ZiY h
 case index=>exact Zpi h
 case extract=>
  split at h
  ·grind
  ·grind
 case binOp o t x y u=>
  rw[g _ _ _ _ _ rfl]at h⊢
  exact ZyC h
 case unOp=>exact ZGc h
 case convert=>exact ZtN h
 case nilCheck=>
  unfold Jp at h⊢
  split at h
  ·grind
  ·grind
  ·grind
 case makeFunc=>exact⟨_,rfl,h⟩
 case makeInterface=>
  obtain⟨d,h⟩:=h
  repeat' split at h
  all_goals first|exact h.elim|exact⟨_,⟨d,rfl⟩,h⟩
 case typeAssert=>
  obtain⟨d,h⟩:=h
  repeat' split at h
  all_goals first|exact h.elim|exact⟨_,⟨d,h.1,rfl⟩,h.2⟩
 case slice=>exact Zqm h
 case build=>exact Zpf h
 case lookup=>exact ZuY h
 case call c=>
  split at h
  ·obtain⟨v,e,f⟩:=Zx6 h.2;exact⟨v,⟨h.1,e⟩,f⟩
  ·split at h
   ·unfold Ex at h⊢
    grind
   ·unfold Hx at h⊢
    grind
   grind
  ·grind
theorem Zok{op:Op}(e:∀o t x y u,op=.binOp o t x y u→JT y=false){v:AV}(d:K v)(h:A1 P H op ρ (fun y=>y=v)):A1 P H op ρ K:=by
 have:(fun y=>y=v)=(fun y=>y=v∧K v):=by funext y;simp[d]
 rw[this]at h
 clear this d
 cases op<;>simp only[A1]at h⊢<;>try exact h.elim
 case move x=>exact h.1▸h.2
 case assign x=>exact h.1▸h.2
 case pick c a b=>
  split at h
  ·grind
  ·grind
 case load t x=>
  unfold EJ at h⊢
  split at h
  ·grind
  ·grind
  ·grind
 case fieldAddr=>
  unfold Ff at h⊢
  split at h
  ·grind
  ·grind
  ·grind
 case field=>
  unfold Fj at h⊢
  split at h
  ·split at h
   ·grind
   grind
  ·grind
 case indexAddr=>
  unfold EB at h⊢
  split at h
  ·grind
  ·grind
  ·grind
 case index=>
  unfold FX at h⊢
  split at h
  ·grind
  ·grind
 case makeInterface=>
  refine⟨h.1,?_⟩
  replace h:=h.2
  repeat' split at h
  all_goals first|exact h.elim|exact h.1▸h.2
 case typeAssert=>
  refine⟨h.1,?_⟩
  replace h:=h.2
  repeat' split at h
  all_goals first|exact h.elim|exact⟨h.1,h.2.1▸h.2.2⟩
 case extract=>
  split at h
  ·grind
  ·grind
 case binOp o t x y u=>
  rw[e _ _ _ _ _ rfl]at h⊢
  unfold CI at h⊢
  split at h
  ·exact⟨h.1,Zle (fun y (hy:y=v∧K v)=>hy.1▸hy.2) h.2⟩
  ·exact Zln (fun y (hy:y=v∧K v)=>hy.1▸hy.2) h
  ·grind
  ·unfold HF at h⊢
   split at h
   ·split at h
    ·grind
    grind
   grind
  ·cases h.1
  ·grind
 case unOp=>
  unfold EX at h⊢
  split at h<;>grind
 case nilCheck=>
  unfold Jp at h⊢
  split at h
  ·grind
  ·grind
  ·grind
 case convert=>
  unfold Fk at h⊢
  split at h
  ·grind
  ·grind
  ·grind
 case makeFunc=>exact h.1▸h.2
 case slice=>
  unfold EF at h⊢
  split at h
  ·grind
  ·grind
  ·grind
  ·grind
 case build=>
  unfold FY at h⊢
  split at h
  ·grind
  ·grind
 case lookup=>exact ZlV (fun y (hy:y=v∧K v)=>hy.1▸hy.2) h
 case call c=>
  split at h
  ·refine⟨h.1,?_⟩
   replace h:=h.2
   unfold DX at h⊢
   grind
  ·split at h
   ·unfold Ex at h⊢
    grind
   ·unfold Hx at h⊢
    grind
   grind
  ·grind
theorem ge{o:Oper}(h:CU o=true)(a:∀t len ps,o.op=.buildSlice t (len+1) ps→False):Cv o=true:=by
 unfold CU at h
 rw[YH]at h
 rcases h with h|h
 ·exact h
 ·exfalso
  unfold b8 at h
  split at h
  ·rename_i e;exact a _ _ _ e
  ·simp at h
theorem fC{o:Oper}(a:CU o=true):∀b t x y u,o.op=.binOp b t x y u→JT y=false:=by
 intro b t x y u h
 simp only[CU,b8,Cv,h,Ks,XU,Yd,YL]at a
 exact a.2
theorem Zo2{o:Oper}{v:AV}(h:∀x∈o.op.operands,ρ x=ρ' x)(a:qV P l H o ρ v):qV P l H o ρ' v:=by
 obtain⟨k,op,type,pos,after,guard⟩:=o
 have d:∀g:Array Operand,(∀x∈g,ρ x=ρ' x)→g.toList.map ρ=g.toList.map ρ':=fun g j=>Ez fun x hx=>j x (by simpa using hx)
 cases op<;>simp only[Op.operands]at h<;>simp only[qV,A1]at a⊢<;>try exact a
 case call c=>
  have j:c.args.toList.map ρ=c.args.toList.map ρ':=d _ fun x hx=>h x (by simp[Call.operands,hx])
  cases i:c.callee with
  |value f=>
   have y:ρ f=ρ' f:=h f (by simp[Call.operands,i])
   grind
  |invoke r m=>simp only[i]at a
  |builtin b=>
   simp only[i]at a⊢
   split at a
   ·rename_i x t w q u
    rw[←h x (by simp[Call.operands,i,k8 q])]
    exact a
   ·grind
   grind
 case build t ps=>
  have:(ps.toList.map fun p=>(p.1,ρ p.2))=ps.toList.map fun p=>(p.1,ρ' p.2):=Ez fun p s=>by
   grind
  rw[←this];exact a
 case buildSlice t n ps=>
  cases n with
  |zero=>exact a
  |succ n=>
   have:(ps.toList.map fun p=>(p.1,ρ p.2))=ps.toList.map fun p=>(p.1,ρ' p.2):=Ez fun p s=>by
    grind
   simp only at a⊢
   rw[←this];exact a
 case makeFunc fn first e=>
  rw[←d first fun x hx=>h x (by simp[hx]),←d e fun x hx=>h x (by simp[hx])];exact a
 case slice t x lo hi z=>
  rw[←h x (by simp),show lo.map ρ'=lo.map ρ from by cases lo<;>simp_all,show hi.map ρ'=hi.map ρ from by cases hi<;>simp_all];exact a
 all_goals(first|(simp_all;done))
theorem ZoJ{o:Oper}{s:Nat→AV}{K:St→Prop}(a:CU o=true)(h:Gj P l n o K ⟨s,H⟩):∃d v,o.dst=some d∧d<n∧qV P l H o (ev s) v∧K ⟨upd s d v,H⟩:=by
 have m:∃d,o.dst=some d:=by
  have:o.dst.isSome=true:=by
   unfold CU Cv at a
   rw[YH,Yd,Yd]at a
   rcases a with h|h
   ·exact h.1
   ·exact h.1
  exact Y9.1 this
 obtain⟨d,m⟩:=m
 have i:A1 P H o.op (ev s) (Cz n o.dst K ⟨s,H⟩)→(∀v,A1 P H o.op (ev s) (fun y=>y=v)→qV P l H o (ev s) v)→∃d v,o.dst=some d∧d<n∧qV P l H o (ev s) v∧K ⟨upd s d v,H⟩:=fun h p=>by
  obtain⟨v,q,b⟩:=ZGR (fC a) h
  rw[m]at b
  exact⟨d,v,m,b.1,p v q,b.2⟩
 unfold Gj at h
 split at h
 ·rename_i z
  obtain⟨v,q,b⟩:=h
  rw[m]at b
  refine⟨d,v,m,b.1,?_,b.2⟩
  unfold qV
  rw[z]
  exact q
 ·rename_i c j
  replace a:Cv o=true:=ge a fun t n ps e=>by rw[j]at e;cases e
  split at h
  ·rename_i f w
   simp only[]at h
   split at h
   ·rename_i g first A B
    obtain⟨r,q,b⟩:=h
    rw[m]at b
    refine⟨d,r,m,b.1,?_,b.2⟩
    simp only[qV,j,w,B]
    exact q
   ·exact h.elim
  ·rename_i w
   refine i ?_ ?_
   ·unfold Bw at h
    simp only[j]at h
    simp only[Cv,j,Yd]at a
    split at h
    ·rename_i f x;exact absurd x (w f)
    ·rename_i u;rw[u]at a;simp at a
    ·rw[j];exact h
   ·intro v p
    unfold qV
    rw[j]at p⊢
    cases k:c.callee with
    |value f=>exact absurd k (w f)
    |_=>simpa[k]using p
 ·rename_i u j
  replace a:Cv o=true:=ge a fun t n ps e=>u _ _ _ e
  refine i ?_ ?_
  ·unfold Bw at h
   split at h
   ·rename_i he;simp[Cv,he]at a
   ·rename_i he;simp[Cv,he]at a
   ·rename_i he;simp[Cv,he]at a
   ·rename_i he;simp[Cv,he]at a
   ·rename_i he;simp[Cv,he]at a
   ·rename_i c he;exact absurd he (j c)
   ·exact h
  ·intro v p
   unfold qV
   split
   ·rename_i he;exact absurd he (u _ _ _)
   ·rename_i c he;exact absurd he (j c)
   ·exact p
theorem ZPE{o:Oper}{s:Nat→AV}{v:AV}{d:Nat}(q:CU o=true)(b:o.dst=some d)(a:d<n)(h:qV P l H o (ev s) v):CS P l n B o (fun E=>E=⟨upd s d v,H⟩) ⟨s,H⟩:=by
 unfold qV at h
 split at h
 ·rename_i t len parts k
  obtain⟨e,sz,z,G,i,j,u,w,x,y,A,rfl⟩:=h
  exact Zhn k b i j u w x y A a rfl
 ·rename_i c C
  split at h
  ·rename_i f p
   split at h
   ·rename_i g first m D
    refine Zoy C p D (h.mono fun r F ⟨i,j⟩=>?_)
    subst i;subst j
    rw[b]
    exact⟨a,rfl⟩
   grind
  ·rename_i p
   exact UA (Zok (fC q) (by rw[b];exact⟨a,rfl⟩) h)
 ·exact UA (Zok (fC q) (by rw[b];exact⟨a,rfl⟩) h)
end
section
variable {P:Program} {l n:Nat} {B:Base} {H:Hp} {ops:Array Oper} {md:Region.Mode} {Q:(Nat→AV)→Prop}
def YA(P:Program)(l:Nat)(H:Hp)(ops:Array Oper)(o:Oper)(s:Nat→AV)(v:AV):Prop:=
 match o.guard with
 |none=>qV P l H o (ev s) v
 |some (i,b)=>match IZ s (ops.toList.map (·.dst)) i b with
  |some t=>(t=true→qV P l H o (ev s) v)∧(t=false→v=.tup [])
  |none=>False
theorem mL{o:Oper}{s:Nat→AV}{v u:AV}{d:Nat}(k:d∉o.looksAt ops)(h:YA P l H ops o (upd s d u) v):YA P l H ops o s v:=by
 have f:∀x∈o.op.operands,ev (upd s d u) x=ev s x:=fun x hx=>by
  cases x with
  |tmp t=>
   have c:t≠d:=fun e=>k (by
    subst e
    exact HO _ (Xx.2 ⟨.tmp t,by simpa using hx,rfl⟩))
   simp[ev,upd,c]
  |_=>rfl
 unfold YA at*
 cases j:o.guard with
 |none=>simp only[j]at h⊢;exact Zo2 f h
 |some m=>
  obtain⟨i,b⟩:=m
  simp only[j]at h⊢
  have g:IZ (upd s d u) (ops.toList.map (·.dst)) i b=IZ s (ops.toList.map (·.dst)) i b:=by
   unfold IZ
   simp only[YR,YD]
   cases n:ops[i]? with
   |none=>rfl
   |some p=>
    cases a:p.dst with
    |none=>simp[a]
    |some t=>
     have c:t≠d:=fun e=>k (by subst e;simp[Oper.looksAt,j,n,a])
     simp[a,upd,c]
  rw[g]at h
  split at h
  ·rename_i t q
   exact⟨fun e=>Zo2 f (h.1 e),h.2⟩
  ·exact h
theorem ZG5{o:Oper}{s:Nat→AV}{v u:AV}{d:Nat}(a:d∉o.looksAt ops)(h:YA P l H ops o s v):YA P l H ops o (upd s d u) v:=by
 refine mL (d:=d) (u:=s d) a ?_
 have:upd (upd s d u) d (s d)=s:=by funext j;unfold upd;split<;>simp_all
 grind
theorem ZxQ{s:Nat→AV}{d e:Nat}{u v:AV}(h:d≠e):upd (upd s d u) e v=upd (upd s e v) d u:=by
 funext j
 unfold upd
 grind
end
def L7(P:Program)(t:TypeId)(i:Nat):Option (Nat×Nat×Bool):=
 match P.underlying t with
 |some (.struct a)=>(a[i]?).bind fun f=>(DK P f.type).map fun b=>(f.offset,P.cellsOf f.type,b)
 |_=>none
def O5(o:Option (Nat×Nat×Bool))(x:AV)(K:AV→Prop):Prop:=
 match o,x with
 |some (o,n,true),.agg cs=>n≠0∧K (.agg ((cs.drop o).take n))
 |some (o,_,false),.agg cs=>(match cs[o]? with|some c=>K c|none=>False)
 |_,_=>False
theorem ZrT{P:Program}{t:TypeId}{i:Nat}{x:AV}{K:AV→Prop}:Fj P t i x K=O5 (L7 P t i) x K:=by
 unfold Fj L7
 cases x with
 |agg cs=>
  cases j:P.underlying t with
  |none=>rfl
  |some d=>
   cases d with
   |struct a=>
    simp only
    cases g:a[i]? with
    |none=>rfl
    |some f=>
     simp only[Ya]
     cases c:DK P f.type with
     |none=>rfl
     |some b=>cases b<;>rfl
   |_=>rfl
 |_=>
  have e:∀(o:Option (Nat×Nat×Bool)) (y:AV),(∀cs,y≠.agg cs)→O5 o y K=False:=fun o y h=>by
   unfold O5
   grind
  grind
structure fins (P:Program) (l:Nat) (H:Hp) (rs:List ResultVar) (Post:AV→Hp→Prop) (e:Exit) (σ:St):Prop where
 he:e=.normal∨e=.ret
 hy:EM P σ rs (fun xs=>∃y,Fz σ.H l (DJ xs) y∧Post y (I0 l σ.H H))
inductive Fit:D→Prop
 |int (k:IntKind) (n:Int):Fit (.int k n)
 |bool (b:Bool):Fit (.bool b)
 |str (s:ByteArray) (h:s.size<2147483648):Fit (.str s)
 |list (es:List (List D)) (hl:es.length<2147483648) (h:∀e∈es,∀x∈e,Fit x):Fit (.list es)
def KJ(l:List D):Prop:=∀d∈l,Fit d
theorem Fit.len{α:Type}{e:α→List D}{xs:List α}(h:Fit (.list (xs.map e))):xs.length<2147483648:=by
 cases h with|list _ hl h=>simpa using hl
theorem Fit.mem{α:Type}{e:α→List D}{xs:List α}(h:Fit (.list (xs.map e))){x:α}(hx:x∈xs):KJ (e x):=by
 cases h with|list _ hl h=>exact h _ (XM hx)
theorem Fit.el{α:Type}{e:α→List D}{xs:List α}(h:Fit (.list (xs.map e))){i:Nat}{x:α}(hx:xs[i]?=some x):KJ (e x):=h.mem (Yi hx)
theorem KJ.at{l:List D}(h:KJ l)(i:Nat){d:D}(hi:l[i]?=some d):Fit d:=h d (Yi hi)
theorem KJ.sub{l:List D}(h:KJ l)(i n:Nat){m:List D}(hi:(l.drop i).take n=m):KJ m:=by
 subst hi
 exact fun d a=>h d (XI (XJ a))
def nrm:AV→AV
 |.e0=>.d (.list [])
 |.agg xs=>.agg (xs.map fun x=>match x with|.e0=>.d (.list [])|x=>x)
 |x=>x
section
variable {P:Program} {l n:Nat} {B:Base} {H H':Hp} {K:St→Prop} {σ σ':St} {Q:Exit→St→Prop} {s:Nat→AV} {ds:List (Option Nat)} {d:Option Nat} {op:Op} {ty:TypeId} {ps:String} {af:Array Edge} {rest:List Oper}
 {g:Option (Nat×Bool)} {x y:Operand} {t:TypeId}
theorem fU{a b:Code}(h:BI P l n B a (yC (BI P l n B b Q) Q) σ):BI P l n B (.seq a b) Q σ:=ZI1 fun _ c=>HZ h fun e σ' h=>by
 cases e<;>first|exact c σ' h|exact h
theorem MZ{a:Int}{i:Nat}(h:a=(i:Int))(hi:i<9223372036854775808):IntKind.wrap .i64 a=(i:Int):=by
 subst h
 exact IntWalk.i64_in _ ⟨by omega,by omega⟩
theorem Zxh{f:FuncId}{fn:Func}(g:List ResultVar){c:Code}{xs:List AV}{a:AV→Hp→Prop}(j:P.funcs[f]?=some fn)(i:fn.body=some c)(b:(fn.name== "runtime.NumGoroutine")=false)
  (k:fn.ntmps=n) (m:fn.results.toList=g) (hx:xs.length≤n) (h:∀B:Base,BI P l n B c (fins P l H g a) ⟨args xs,Df l H⟩):Zc9 P f l xs H a:=by
 refine Zzj j i b k hx fun B=>HZ (h B) fun e σ d=>?_
 unfold ZXs
 rw[m]
 exact⟨d.he,d.hy⟩
theorem Fz.data{xs:List D}:Fz H' l (.agg (xs.map .d)) (.agg (xs.map .d)):=
 .agg _ _ rfl fun i x y hx hy=>by
  rw[hx]at hy;cases hy
  rw[YR]at hx
  cases hi:xs[i]? with
  |none=>rw[hi]at hx;cases hx
  |some d=>rw[hi]at hx;cases hx;exact .keep _ rfl
theorem Fz.pure{xs:List AV}{ds:List D}(h:Dw xs=some ds):Fz H' l (.agg xs) (.agg (ds.map .d)):=
 .agg _ _ (by rw[YG];exact fE h) fun i x y hx hy=>by
  rw[YR]at hy
  cases hi:ds[i]? with
  |none=>rw[hi]at hy;cases hy
  |some d=>
   rw[hi]at hy;cases hy
   have:=ZnV h hx hi
   cases x<;>simp only[GO]at this<;>cases this
   ·exact .keep _ rfl
   ·exact .e0
theorem Fz.d'{x:AV}{y:D}(h:x=.d y):Fz H' l x (.d y):=by subst h;exact .keep _ rfl
theorem Fz.two{x y x' e:AV}(hx:Fz H' l x x')(hy:Fz H' l y e):Fz H' l (DJ [x,y]) (.tup [x',e]):=
 .tup _ _ rfl fun i a b c d=>by
  match i with
  |0=>cases c;cases d;exact hx
  |1=>cases c;cases d;exact hy
  |i+2=>simp at c
theorem Fz.one{x x':AV}(hx:Fz H' l x x'):Fz H' l (DJ [x]) x':=hx
theorem RepA.nrm{S:Nat→Prop}{m:Mu}{w:World}{x:AV}{v:Value}(h:RepA w S H m l x v):RepA w S H m l (nrm x) v:=by
 cases x with
 |e0=>exact h.e0_d
 |agg xs=>
  cases h with
  |agg _ vs hx a h=>
   refine .agg _ _ (by simpa using hx) a (fun i y v hy b=>?_)
   rw[YR]at hy
   cases hi:xs[i]? with
   |none=>rw[hi]at hy;cases hy
   |some x=>
    rw[hi]at hy
    simp only[YV,Yk]at hy
    subst hy
    have:=h i x v hi b
    split
    ·exact this.e0_d
    grind
 |_=>exact h
theorem Zc9.nrm{f:FuncId}{xs:List AV}{a:AV→Hp→Prop}(h:Zc9 P f l (xs.map nrm) H a):Zc9 P f l xs H a:=
 ⟨h.1,fun m S w vs c b=>h.2 m S w vs c ⟨by simpa using b.1,fun i x v hx d=>by
  rw[YR]at hx
  cases hi:xs[i]? with
  |none=>rw[hi]at hx;cases hx
  |some y=>
   rw[hi]at hx
   simp only[YV,Yk]at hx
   subst hx
   exact(b.2 i y v hi d).nrm⟩⟩
end
def P6:List Operand→List Nat
 |[]=>[]
 |.tmp t::r=>t::P6 r
 |_::r=>P6 r
def My:List (Option Nat)→Nat→Option Nat
 |[],_=>none
 |x::_,0=>x
 |_::r,i+1=>My r i
def F2(ds:List (Option Nat))(o:Oper):List Nat:=
 P6 o.op.operands.toList++match o.guard with
  |some (g,_)=>(match My ds g with|some d=>[d]|none=>[])
  |none=>[]
def F4:List (Nat×Nat)→Nat→Option Nat
 |[],_=>none
 |(d,k)::r,t=>match Nat.beq d t with|true=>some k|false=>F4 r t
def B8(o:Oper)(i:Nat):Bool:=o.after.toList.any fun e=>Region.binds .any e&&Nat.beq e.on i
def clear(o:Oper)(d:Nat):List (Nat×Nat)→Bool
 |[]=>true
 |(t,i)::r=>(match Nat.beq t d with|true=>B8 o i|false=>true)&&clear o d r
theorem ZnB{o:Oper}{d i:Nat}:∀{l:List (Nat×Nat)},clear o d l=true→(d,i)∈l→B8 o i=true
 |[],_,h=>by cases h
 |(t,j)::r,a,h=>by
  simp only[clear,Yd]at a
  rcases Yx.1 h with h|h
  ·cases h
   have:=a.1
   rw[Sf]at this
   exact this
  ·exact ZnB a.2 h
def NI(ds:List (Option Nat)):Nat→List (Nat×Nat)→List (Nat×Nat)→List Oper→Bool
 |_,_,_,[]=>true
 |k,seen,a,o::r=>
  (o.after.toList.all fun e=>!Region.binds .any e||Nat.ble (e.on+1) k)&&
  ((F2 ds o).all fun t=>match F4 seen t with|some i=>B8 o i|none=>true)&&
  match o.dst with
  |some d=>(F4 seen d).isNone&&clear o d a&&NI ds (k+1) ((d,k)::seen) ((F2 ds o).map (·,k)++a) r
  |none=>NI ds (k+1) seen ((F2 ds o).map (·,k)++a) r
def WO:List Oper→Bool
 |[]=>true
 |o::r=>(match o.op with|.select _ _=>false|_=>true)&&WO r
def VP(ops:List Oper):Bool:=WO ops&&NI (ops.map (·.dst)) 0 [] [] ops
theorem Zvf(xs:List Operand):P6 xs=xs.filterMap fun|.tmp t=>some t|_=>none:=by
 induction xs with
 |nil=>rfl
 |cons x xs a=>cases x<;>simp[P6,a]
theorem ZrC:∀(ds:List (Option Nat)) (i:Nat),My ds i=(ds[i]?).join
 |[],i=>by simp[My]
 |x::r,0=>by simp[My]
 |x::r,i+1=>by simp[My,ZrC r i]
theorem Zo6(ops:List Oper)(o:Oper):F2 (ops.map (·.dst)) o=o.looksAt ops.toArray:=by
 unfold F2 Oper.looksAt
 rw[Zvf]
 congr 1
 cases d:o.guard with
 |none=>rfl
 |some a=>
  obtain⟨g,b⟩:=a
  simp only
  rw[ZrC,YR]
  simp only[k9]
  cases ops[g]? with
  |none=>rfl
  |some c=>simp only[YV,Option.join_some,Ya];cases c.dst<;>rfl
structure FInv (ds:List (Option Nat)) (pre:List Oper) (seen:List (Nat×Nat)) (looked:List (Nat×Nat)):Prop where
 s1:∀d i,F4 seen d=some i→∃o,pre[i]?=some o∧o.dst=some d
 s2:∀(i:Nat) (o:Oper) (d:Nat),pre[i]?=some o→o.dst=some d→F4 seen d=some i
 lo:∀(i:Nat) (o:Oper),pre[i]?=some o→∀t∈F2 ds o,(t,i)∈looked
def Vr(ds:List (Option Nat))(x y:Oper):Prop:=(∀d,x.dst=some d→d∉F2 ds y∧y.dst≠some d)∧(∀d,y.dst=some d→d∉F2 ds x)
theorem ZiF(ds:List (Option Nat)):∀(s pre:List Oper) (seen c:List (Nat×Nat)),FInv ds pre seen c→NI ds pre.length seen c s=true→
  ∀(j:Nat) (p:Oper),s[j]?=some p→(∀e∈p.after,Region.binds .any e=true→e.on<pre.length+j)∧
   ∀(i:Nat) (n:Oper),i<pre.length+j→(pre++s)[i]?=some n→B8 p i=true∨Vr ds n p
 |[],pre,seen,c,v,h,j,p,B=>by simp at B
 |o::r,pre,seen,c,v,h,j,p,B=>by
  simp only[NI,Yd]at h
  obtain⟨⟨H,I⟩,u⟩:=h
  cases j with
  |zero=>
   simp only[Gu,Yk]at B
   subst B
   refine⟨fun e he E=>?_,fun i n hi g=>?_⟩
   ·have:=Yu.1 H e (by simpa using he)
    simp only[E,YY,Kt]at this
    have:=Yh this
    omega
   ·rw[Ys (by omega)]at g
    by_cases A:B8 o i=true
    ·exact .inl A
    ·right
     refine⟨fun d w=>⟨fun hm=>?_,fun k=>?_⟩,fun d w hm=>?_⟩
     ·have:=Yu.1 I d hm
      rw[v.s2 i n d g w]at this
      exact A this
     ·rw[k]at u
      simp only[Yd]at u
      have:=u.1.1
      rw[v.s2 i n d g w]at this
      cases this
     ·rw[w]at u
      simp only[Yd]at u
      exact A (ZnB u.1.2 (v.lo i n g d hm))
  |succ j=>
   simp only[L2]at B
   have q:∀(f:List (Nat×Nat)),(∀d i,F4 f d=some i→∃m,(pre++[o])[i]?=some m∧m.dst=some d)→(∀(i:Nat) (m:Oper) (d:Nat),(pre++[o])[i]?=some m→m.dst=some d→F4 f d=some i)→
     FInv ds (pre++[o]) f ((F2 ds o).map (·,pre.length)++c):=fun f a b=>⟨a,b,fun i m g t G=>by
    rcases Oo i pre.length with l|heq|C
    ·rw[Ys l]at g;exact la _ (v.lo i m g t G)
    ·subst heq;simp at g;subst g;exact HO _ (YX.2 ⟨t,G,rfl⟩)
    ·rw[YM (by simp;omega)]at g;cases g⟩
   have fin:∀f,FInv ds (pre++[o]) f ((F2 ds o).map (·,pre.length)++c)→NI ds (pre.length+1) f ((F2 ds o).map (·,pre.length)++c) r=true→_:=fun f D K=>
    ZiF ds r (pre++[o]) f ((F2 ds o).map (·,pre.length)++c) D (by simpa using K) j p B
   have conv:(∀e∈p.after,Region.binds .any e=true→e.on<(pre++[o]).length+j)∧(∀(i:Nat) (n:Oper),i<(pre++[o]).length+j→(pre++[o]++r)[i]?=some n→B8 p i=true∨Vr ds n p)→
     (∀e∈p.after,Region.binds .any e=true→e.on<pre.length+(j+1))∧(∀(i:Nat) (n:Oper),i<pre.length+(j+1)→(pre++o::r)[i]?=some n→B8 p i=true∨Vr ds n p):=by
    rintro⟨a,b⟩
    simp only[Yr,E1,G6,Ea,HR,Gt]at a b
    exact⟨fun e he E=>by have:=a e he E;omega,fun i n hi g=>b i n (by omega) g⟩
   split at u
   ·rename_i d w
    simp only[Yd]at u
    obtain⟨⟨F,L⟩,J⟩:=u
    have z:F4 seen d=none:=by cases x:F4 seen d with|none=>rfl|some i=>rw[x]at F;cases F
    refine conv (fin _ (q ((d,pre.length)::seen) (fun d' i x=>?_) (fun i m d' g k=>?_)) J)
    ·simp only[F4]at x
     split at x
     ·rename_i he;cases x;rw[←Ye he];exact⟨o,by simp,w⟩
     ·obtain⟨m,a,b⟩:=v.s1 d' i x
      refine⟨m,?_,b⟩
      rw[Ys];exact a
      rcases YF i pre.length with l|y
      ·exact l
      ·rw[YM y]at a;cases a
    ·simp only[F4]
     rcases Oo i pre.length with l|heq|C
     ·rw[Ys l]at g
      have:=v.s2 i m d' g k
      split
      ·rename_i he
       rw[←Ye he,z]at this;cases this
      ·exact this
     ·subst heq;simp at g;subst g;rw[w]at k;cases k;simp
     ·rw[YM (by simp;omega)]at g;cases g
   ·rename_i w
    refine conv (fin _ (q seen (fun d' i x=>?_) (fun i m d' g k=>?_)) u)
    ·obtain⟨m,a,b⟩:=v.s1 d' i x
     refine⟨m,?_,b⟩
     rw[Ys];exact a
     rcases YF i pre.length with l|y
     ·exact l
     ·rw[YM y]at a;cases a
    ·rcases Oo i pre.length with l|heq|C
     ·rw[Ys l]at g;exact v.s2 i m d' g k
     ·subst heq;simp at g;subst g;rw[w]at k;cases k
     ·rw[YM (by simp;omega)]at g;cases g
theorem Zl0{ops:List Oper}{x y:Oper}(h:Vr (ops.map (·.dst)) x y):x.apart ops.toArray y=true:=by
 obtain⟨a,c⟩:=h
 rw[Zo6]at c
 have b:∀d,x.dst=some d→d∉y.looksAt ops.toArray∧y.dst≠some d:=fun d e=>by have:=a d e;rw[Zo6]at this;exact this
 unfold Oper.apart
 grind
theorem Zjl{ops:Array Oper}(m:∀(j:Nat) (c:Oper),ops[j]?=some c→∀e∈c.after,Region.binds .any e=true→e.on<j)
  (n:∀(i j:Nat) (o c:Oper),i<j→ops[i]?=some o→ops[j]?=some c→B8 c i=true∨o.apart ops c=true):
  ∀(fuel k:Nat) (a:Array Bool),fuel+k=ops.size→a.size=ops.size→(∀j,j<ops.size→a[j]?=some (decide (j<k)))→Region.lexFrom .any ops fuel k a=true
 |0,k,a,q,hs,hl=>by
  simp only[Region.lexFrom]
  rw[List.isEmpty_iff,Region.ready,XG]
  intro i hi
  have hi:=R6.1 hi
  have:=hl i hi
  simp[Yz,this]
  omega
 |fuel+1,k,a,q,hs,hl=>by
  have g:k<ops.size:=by omega
  have b:ops[k]?=some ops[k]:=Yv g
  simp only[Region.lexFrom,Yd]
  refine⟨⟨?_,?_⟩,Zjl m n fuel (k+1) _ (by omega) (by simp[hs]) (fun j d=>?_)⟩
  ·rw[List.contains_iff_mem]
   unfold Region.ready
   refine EA.2 ⟨R6.2 g,?_⟩
   rw[Yd]
   refine⟨by simp[Yz,hl k g],?_⟩
   rw[b]
   simp only[YV,YQ]
   rw[Array.all_eq_true_iff_forall_mem]
   intro e he
   by_cases p:Region.binds .any e=true
   ·have:=m k _ b e he p
    simp[Yz,hl e.on (by omega),this]
   grind
  ·unfold Region.free
   rw[b]
   simp only[Yu,R6]
   intro j d
   rw[YH,YH]
   rcases Oo j k with l|heq|f
   ·left;right;simp[Yz,hl j d,l]
   ·grind
   ·right
    rw[Yv d]
    simp only
    rw[YH]
    rcases n k j _ _ f b (Yv d)with h|h
    ·left
     unfold B8 at h
     obtain⟨e,he,h⟩:=YW.1 h
     rw[←Array.any_toList]
     exact YW.2 ⟨e,he,by simpa using h⟩
    grind
  grind
theorem Zi6{ops:List Oper}(h:VP ops=true):Region.lexB .any ops.toArray=true:=by
 unfold VP at h
 rw[Yd]at h
 have g:∀(l:List Oper),WO l=true→l.all (fun o=>match o.op with|.select ..=>false|_=>true)=true:=fun l=>by
  induction l with
  |nil=>intro _;rfl
  |cons o l p=>
   intro m
   simp only[WO,Yd]at m
   grind
 have key:=ZiF (ops.map (·.dst)) ops [] [] [] ⟨fun d i k=>by simp[F4]at k,fun i o d e=>by simp at e,fun i o e=>by simp at e⟩ h.2
 simp only[G6,YP,Gt]at key
 unfold Region.lexB
 rw[Yd]
 refine⟨?_,Zjl (fun j f b=>(key j f (by simpa using b)).1) (fun i j n f c hi b=>?_) _ 0 _ rfl (by simp) (fun j b=>by simp at b⊢;simp[b])⟩
 ·unfold Region.noSelect
  grind
 ·rcases(key j f (by simpa using b)).2 i n c (by simpa using hi)with a|a
  ·grind
  ·exact .inr (Zl0 a)
end Go.Eng
