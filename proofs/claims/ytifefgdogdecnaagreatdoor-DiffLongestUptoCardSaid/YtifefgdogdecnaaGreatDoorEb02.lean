import Derived.Test.YtifefgdogdecnaaGreatDoorEb01
import Derived.Deep.AppendSrc
import Derived.Great.BuildSlice
import Derived.Laws.MakeOwn
import Derived.Test.YtifefgdogdecnaaGreatDoorEb00
namespace Go.Eng
set_option linter.all false
open Go Go.RowKit
def AV.low(l:Nat):AV→Bool
 |.ref k _ _ _|.ptr k _ _|.mp k _=>decide (k.1≤l)
 |.fn _ _ _|.agg _|.tup _=>false
 |_=>true
def Gx(w:World)(S:Nat→Prop)(H:Hp)(m:Mu)(l:Nat)(xs:List AV)(vs:Array Value):Prop:=
 xs.length=vs.size∧∀(i:Nat) (x:AV) (v:Value),xs[i]?=some x→vs[i]?=some v→RepA w S H m l x v
def Zbb(P:Program)(f:FuncId)(l:Nat)(xs:List AV)(H:Hp)(a:AV→Hp→Prop):Prop:=
 (∃fn c,P.funcs[f]?=some fn∧fn.body=some c∧(fn.name== "runtime.NumGoroutine")=false)∧
 ∀m S w vs,Ok l H m S w→Gx w S H m l xs vs→
  Calls P f vs w (fun e w'=>∃r v H' m' S',e=.returned v∧a r H'∧Ok l H' m' S' w'∧RepA w' S' H' m' l r v∧Ext l H m S w H' m' S' w')
theorem Zbb.mono{P:Program}{f:FuncId}{l:Nat}{xs:List AV}{H:Hp}{e d:AV→Hp→Prop}(h:Zbb P f l xs H e)(j:∀r H',e r H'→d r H'):Zbb P f l xs H d:=
 ⟨h.1,fun m S w vs g i=>(h.2 m S w vs g i).mono fun _ _ ⟨r,v,H',m',S',a,b,c⟩=>⟨r,v,H',m',S',a,j _ _ b,c⟩⟩
def Bv(n:Nat)(a:Option Nat)(K:St→Prop)(σ:St)(x:AV):Prop:=
 match a with
 |some d=>d<n∧K ⟨upd σ.s d x,σ.H⟩
 |none=>K σ
def Jw(n:Nat)(a:Option Nat)(K:St→Prop)(σ:St):AV→Hp→Prop:=fun r H'=>Bv n a K ⟨σ.s,H'⟩ r
def Cp(l n:Nat)(d:Nat)(e:TypeId)(sz:Nat)(cells:List AV)(x:Nat→AV)(K:St→Prop)(σ:St):Prop:=
 d<n∧K ⟨upd σ.s d (x ((σ.H (l+1,d)).g+1)),updH σ.H (l+1,d) ⟨(σ.H (l+1,d)).g+1,true,e,sz,cells⟩⟩
def FU(H:Hp)(sz:Nat):AV→Option (Nat×List AV)
 |.e0=>some (0,[])
 |.d (.list es)=>if es.all (fun e=>e.length==sz)then some (es.length,es.flatten.map .d)else none
 |.ref k g off n=>if g=(H k).g∧(H k).live=true∧(H k).sz=sz∧(off+n)*sz≤(H k).cells.length then some (n,((H k).cells.drop (off*sz)).take (n*sz))else none
 |_=>none
def H4(P:Program)(l n:Nat)(d:Nat)(t:TypeId)(x y:AV)(K:St→Prop)(σ:St):Prop:=
 match elm P t with
 |some (e,sz)=>sz≠0∧P.bytesOf e≠0∧(zer P e).isSome=true∧match FU σ.H sz y with
  |some (c,news)=>news.all AV.one=true∧match x with
   |.e0=>c*P.bytesOf e≤140737488355328∧(c=0→d<n∧K ⟨upd σ.s d .e0,σ.H⟩)∧(c≠0→Cp l n d e sz news (fun g=>.ref (l+1,d) g 0 c) K σ)
   |.ref k g off a=>g=(σ.H k).g∧(σ.H k).live=true∧(σ.H k).sz=sz∧(σ.H k).e=.t e∧(off+a)*sz=(σ.H k).cells.length∧(a+c)*P.bytesOf e≤140737488355328∧
     (k.1=l+1∨news.all (AV.low k.1)=true)∧d<n∧K ⟨upd σ.s d (.ref k (g+1) 0 (a+c)),updH σ.H k ⟨g+1,true,e,sz,(σ.H k).cells.drop (off*sz)++news⟩⟩
   |_=>False
  |none=>False
 |none=>False
def DI:AV→Option D
 |.d x=>some x
 |.e0=>some (.list [])
 |_=>none
def B0:List AV→Option (List D)
 |[]=>some []
 |x::xs=>match DI x,B0 xs with
  |some d,some ds=>some (d::ds)
  |_,_=>none
def H9:AV→Option (List D)
 |.agg xs=>B0 xs
 |x=>match DI x with|some d=>some [d]|none=>none
def Dm(sz:Nat):Nat→List (Nat×AV)→Option (List (List D))
 |_,[]=>some []
 |i,(j,v)::a=>match H9 v,Dm sz (i+1) a with
  |some e,some b=>if j=i∧e.length=sz then some (e::b)else none
  |_,_=>none
def AX(P:Program)(l n:Nat)(o:Oper)(K:St→Prop)(σ:St):Prop:=
 match o.op with
 |.alloc t=>match o.dst,zer P t with|some d,some z=>z≠[]∧Cp l n d t z.length z (fun g=>.ptr (l+1,d) g 0) K σ|_,_=>False
 |.box t x=>match o.dst,BL (ev σ.s x)with|some d,some z=>z≠[]∧Cp l n d t z.length z (fun g=>.ptr (l+1,d) g 0) K σ|_,_=>False
 |.store t a x=>match o.dst,ev σ.s a,BL (ev σ.s x)with
  |none,.ptr k g off,some vs=>g=(σ.H k).g∧(σ.H k).live=true∧vs.length=P.cellsOf t∧vs≠[]∧off+vs.length≤(σ.H k).cells.length∧(k.1=l+1∨vs.all (AV.low k.1)=true)∧
    K ⟨σ.s,updH σ.H k {σ.H k with cells:=(σ.H k).cells.take off++vs++(σ.H k).cells.drop (off+vs.length) }⟩
  |_,_,_=>False
 |.buildSlice t len parts=>match o.dst,elm P t with
  |some d,some (e,sz)=>sz≠0∧match len with
   |0=>parts.size=0∧d<n∧K ⟨upd σ.s d .e0,σ.H⟩
   |len+1=>(len+1)*sz≤16777216∧match zer P e with
    |some z=>z.length=sz∧match Dm sz 0 (parts.toList.map fun p=>(p.1,ev σ.s p.2))with
     |some es=>es.length=len+1∧d<n∧K ⟨upd σ.s d (.d (.list es)),σ.H⟩
     |none=>match Bu (fun i=>some (i*sz,sz)) (List.replicate (len+1) z).flatten (parts.toList.map fun p=>(p.1,ev σ.s p.2))with
      |some cs=>Cp l n d e sz cs (fun g=>.ref (l+1,d) g 0 (len+1)) K σ
      |none=>False
    |none=>False
  |_,_=>False
 |.makeSlice t x y=>match o.dst,elm P t,ev σ.s x,ev σ.s y with
  |some d,some (e,sz),.d (.int _ c),.d (.int _ h)=>0≤c∧c≤h∧sz≠0∧P.bytesOf e≠0∧(P.bytesOf e:Int)*h≤140737488355328∧match zer P e with
   |some z=>z.length=sz∧Cp l n d e sz (List.replicate c.toNat z).flatten (fun g=>.ref (l+1,d) g 0 c.toNat) K σ
   |none=>False
  |_,_,_,_=>False
 |.call c=>match c.callee with
  |.value f=>match ev σ.s f with
   |.fn (.func g) first b=>Zbb P g (l+1) (first++c.args.toList.map (ev σ.s)++b) σ.H (Jw n o.dst K σ)
   |_=>False
  |.builtin .append=>match o.dst,c.args.toList,c.argTypes.toList with
   |some d,[x,y],[t,_]=>c.argTypes[1]?=some t∧H4 P l n d t (ev σ.s x) (ev σ.s y) K σ
   |_,_,_=>False
  |_=>AI P σ.H o.op (ev σ.s) (Bv n o.dst K σ)
 |_=>AI P σ.H o.op (ev σ.s) (Bv n o.dst K σ)
def Bs(P:Program)(l n:Nat)(B:Base)(o:Oper)(K:St→Prop)(σ:St):Prop:=
 ∀a w,R l n B σ a w→∀Q,o.wp P a w (fun c w'=>∃b,K b∧R l n B b c w') Q
section
variable {P:Program} {l n:Nat} {B:Base} {H H':Hp} {m m':Mu} {S S':Nat→Prop} {w w':World} {s:Nat→AV} {a:Act} {K:St→Prop} {o:Oper}
theorem Ok.over(h:Ok l H m S w)(k:Aa)(z:k.1≤l)(b:Blk)(M:MB)(U:(H k).g<b.g)(E:b.e.isO=false)(t:M.cap≠0)(C:Array Value)(w':World)
  (B:∀i,w'.heap[i]?=if i=M.b then some (.cells C b.e.ty (0,0))else w.heap[i]?) (c:M.b=w.heap.size∨(M.b=(m k).b∧(H k).live=true∧(m k).cap≠0))
  (R:C.size=M.o+M.cap*b.sz) (u:b.cells.length≤M.cap*b.sz) (T:∀(i:Nat) (x:AV) (v:Value),b.cells[i]?=some x→C[M.o+i]?=some v→v.oneCell'=true∧RepA w S H m k.1 x v)
  (J:w.heap.size≤w'.heap.size) (O:w'.os=w.os) (P:w'.tape=w.tape) (Q:w'.output=w.output):
  Ok l (updH H k b) (AN m k M) S w'∧Ext l H m S w (updH H k b) (AN m k M) S w':=by
 have N:¬S M.b:=by
  rcases c with e|⟨e,hl,a⟩
  ·intro hs;have:=h.sub _ hs;omega
  ·rw[e];exact h.fresh k z hl a
 have p:∀q:Aa,q.1≤l→(H q).live=true→(m q).cap≠0→(m q).b<w.heap.size:=fun q f hl n=>by
  obtain⟨C,s,_⟩:=h.blk q f hl n
  rcases Yw (m q).b w.heap.size with p|F
  ·exact p
  ·rw[YV F]at s;cases s
 have r:∀q:Aa,q≠k→q.1≤l→(H q).live=true→(m q).cap≠0→(m q).b≠M.b:=fun q e f hl a he=>by
  rcases c with e'|⟨e',d,g⟩
  ·have:=p q f hl a;omega
  ·exact e (h.inj q k f z hl d a g (he.trans e'))
 have j:Ext l H m S w (updH H k b) (AN m k M) S w':=by
  refine⟨fun _ h=>h,fun i hi=>?_,fun q f=>?_,fun q f G hl=>?_,O,P,Q,J⟩
  ·rw[B,Yq];intro e;exact N (e▸hi)
  ·by_cases e:q=k
   ·subst e;rw[Au];omega
   ·rw[Al _ _ e];exact Ye _
  ·by_cases e:q=k
   ·subst e;rw[Au]at G;omega
   ·rw[Al _ _ e]at hl⊢;rw[AC _ _ e];exact⟨hl,rfl,rfl⟩
 refine⟨⟨fun i hi=>?_,fun q f hl a=>?_,fun q f hl a=>?_,fun q L f y hl d a g heq=>?_,fun q f hl a=>?_,
  h.mp.upd (Ye _) k b E (fun q e=>AC _ _ e) (fun _ h=>h) (fun _ h=>.inl h) j.blk (fun i o A n=>by
   rw[B]
   split
   ·rename_i e
    rcases c with e'|⟨e',d,g⟩
    ·have:=Gp A;omega
    ·obtain⟨C,s,_⟩:=h.blk k z d g
     rw[e,e',s]at A;cases A;cases n
   ·exact A)⟩,j⟩
 ·have:=h.sub i hi;omega
 ·by_cases e:q=k
  ·subst e;rw[AE]at a;exact absurd a t
  ·rw[Al _ _ e]at hl⊢;rw[AC _ _ e]at a;exact h.empty q f hl a
 ·by_cases e:q=k
  ·subst e;rw[AE];exact N
  ·rw[Al _ _ e]at hl;rw[AC _ _ e]at a⊢;exact h.fresh q f hl a
 ·by_cases e:q=k<;>by_cases e':L=k
  ·rw[e,e']
  ·subst e
   rw[AE,AC _ _ e']at heq
   rw[Al _ _ e']at d
   rw[AC _ _ e']at g
   exact absurd heq.symm (r L e' y d g)
  ·subst e'
   rw[AE,AC _ _ e]at heq
   rw[Al _ _ e]at hl
   rw[AC _ _ e]at a
   exact absurd heq (r q e f hl a)
  ·rw[AC _ _ e,AC _ _ e']at heq
   rw[Al _ _ e]at hl
   rw[Al _ _ e']at d
   rw[AC _ _ e]at a
   rw[AC _ _ e']at g
   exact h.inj q L f y hl d a g heq
 ·by_cases e:q=k
  ·subst e
   rw[Au,AE]
   refine⟨C,by rw[B,Yj rfl],R,u,fun i x v hi K=>?_⟩
   obtain⟨D,g2⟩:=T i x v hi K
   exact⟨D,g2.ext j z⟩
  ·rw[Al _ _ e]at hl⊢
   rw[AC _ _ e]at a⊢
   obtain⟨C,s,hs,I,hx⟩:=h.blk q f hl a
   refine⟨C,by rw[B,Yq (r q e f hl a)];exact s,hs,I,fun i x v hi K=>?_⟩
   obtain⟨D,g2⟩:=hx i x v hi K
   exact⟨D,g2.ext j f⟩
theorem RepA.low{x:AV}{v:Value}{j:Nat}(hx:RepA w S H m l x v)(h:x.low j=true):RepA w S H m j x v:=by
 cases hx with
 |top v=>exact .top _
 |d x v e=>exact .d _ _ e
 |e0 a=>exact .e0 _
 |p v b=>exact .p _ b
 |refL k off n a i hl s o=>exact .refL k off n a (by simpa[AV.low]using h) hl s o
 |refD k g off n v i f e b=>exact .refD k g off n v (by simpa[AV.low]using h) f e b
 |ptrL k off i hl=>exact .ptrL k off (by simpa[AV.low]using h) hl
 |ptrD k g off v i f e b=>exact .ptrD k g off v (by simpa[AV.low]using h) f e b
 |mpL k i hl=>exact .mpL k (by simpa[AV.low]using h) hl
 |mpD k g v i f e b=>exact .mpD k g v (by simpa[AV.low]using h) f e b
 |iptr cs off a c q r u=>exact .iptr cs off a c q r u
 |ifc t ds a v y=>exact .ifc t ds a v y
 |fn=>cases h
 |agg=>cases h
 |tup=>cases h
theorem R.step(b:Ok (l+1) H' m' S' w')(g:a.tmps.size=n)(e:a.defers=[])(c:BJ (l+1) s H m S a w)(he:Ext l B.H B.m B.S B.w H m S w)(hx:Ext (l+1) H m S w H' m' S' w'){d:Nat}(f:d<n)
  {x:AV} {v:Value} (h:RepA w' S' H' m' (l+1) x v):R l n B ⟨upd s d x,H'⟩ (a.put (some d) v) w':=
 ⟨m',S',b,by rw[eJ];exact g,by rw[cL];exact e,(c.ext hx).put (by omega) h,he.trans (hx.mono (by omega))⟩
theorem R.un(h:R l n B ⟨s,H⟩ a w):∃m S,Ok (l+1) H m S w∧a.tmps.size=n∧a.defers=[]∧BJ (l+1) s H m S a w∧Ext l B.H B.m B.S B.w H m S w:=h
theorem R.keep(b:Ok (l+1) H' m' S' w')(e:a.tmps.size=n)(d:a.defers=[])(c:BJ (l+1) s H m S a w)(he:Ext l B.H B.m B.S B.w H m S w)(hx:Ext (l+1) H m S w H' m' S' w'):R l n B ⟨s,H'⟩ a w':=
 ⟨m',S',b,e,d,c.ext hx,he.trans (hx.mono (by omega))⟩
theorem Cm{v:Value}{N:Act→World→Prop}{Q:Exit→Act→World→Prop}(h:(execOp a.eval o).run P w=.ok (.value v) w')(b:N (a.put o.dst v) w'):o.wp P a w N Q:=by
 unfold Oper.wp;rw[h];exact b
theorem K7(h:AI P H o.op (ev s) (Bv n o.dst K ⟨s,H⟩)):Bs P l n B o K ⟨s,H⟩:=by
 intro a w p Q
 obtain⟨m,S,e,i,g,f,he⟩:=p
 obtain⟨v,x,j,k,c⟩:=dt h e f
 refine Cm j ?_
 unfold Bv at c
 cases b:o.dst with
 |none=>
  rw[b]at c
  exact⟨_,c,⟨m,S,e,i,g,f,he⟩⟩
 |some d=>
  rw[b]at c
  exact⟨_,c.2,R.step e i g f he (Ext.refl _ _ _ _ _) c.1 k⟩
theorem O3{d:Nat}{e:TypeId}{sz cap:Nat}{cells:List AV}{x:Nat→AV}(E:o.dst=some d)(b:cap≠0)
  (f:∀a w m S,Ok (l+1) H m S w→BJ (l+1) s H m S a w→∃(C:Array Value) (v:Value) (w':World),(execOp a.eval o).run P w=.ok (.value v) w'∧w'.heap=w.heap.push (.cells C e (0,0))∧w'.os=w.os∧w'.tape=w.tape∧w'.output=w.output∧
   (∀H' m',H'=updH H (l+1,d) ⟨(H (l+1,d)).g+1,true,e,sz,cells⟩→m'=AN m (l+1,d) ⟨w.heap.size,0,cap⟩→RepA w' S H' m' (l+1) (x ((H (l+1,d)).g+1)) v)∧
   C.size=cap*sz∧cells.length≤C.size∧∀(i:Nat) (y:AV) (u:Value),cells[i]?=some y→C[i]?=some u→u.oneCell'=true∧RepA w S H m (l+1) y u)
  (h:Cp l n d e sz cells x K ⟨s,H⟩):Bs P l n B o K ⟨s,H⟩:=by
 intro a w A Q
 obtain⟨m,S,j,F,g,k,he⟩:=A
 obtain⟨C,v,w',t,I,p,q,r,G,z,c,D⟩:=f a w m S j k
 obtain⟨J,L⟩:=j.alloc (l+1,d) (Ye _) e sz cap cells C b z c D w' I p q r
 refine Cm t ?_
 rw[E]
 exact⟨_,h.2,R.step J F g k he L h.1 (G _ _ rfl rfl)⟩
end
end Go.Eng
namespace Go.Eng
set_option linter.all false
open Go Go.RowKit
section
variable {P:Program} {l n:Nat} {B:Base} {H H':Hp} {m m':Mu} {S S':Nat→Prop} {w w':World} {s:Nat→AV} {a:Act} {K:St→Prop} {o:Oper}
theorem TN{d g:Nat}{e:TypeId}{sz:Nat}{cells:List AV}{i:Nat}:∀(H':Hp) (m':Mu),H'=updH H (l+1,d) ⟨g,true,e,sz,cells⟩→m'=AN m (l+1,d) ⟨i,0,1⟩→
  RepA w' S H' m' (l+1) (.ptr (l+1,d) g 0) (.pointer (some ⟨i,0,none⟩)):=by
 rintro H' m' rfl rfl
 have:=RepA.ptrL (w:=w') (S:=S) (H:=updH H (l+1,d) ⟨g,true,e,sz,cells⟩) (m:=AN m (l+1,d) ⟨i,0,1⟩) (l:=l+1) (l+1,d) 0 (Ye _) (by rw[Au])
 rw[Au,AE]at this
 exact this
theorem bW{t:TypeId}{d:Nat}{z:List AV}(j:o.op=.alloc t)(h:o.dst=some d)(k:zer P t=some z)(i:z≠[])
  (f:Cp l n d t z.length z (fun g=>.ptr (l+1,d) g 0) K ⟨s,H⟩):Bs P l n B o K ⟨s,H⟩:=by
 refine O3 (cap:=1) h (by decide) (fun a w m S p q=>?_) f
 obtain⟨it,e,hi,c,b,_⟩:=Fs (w:=w) (S:=S) (H:=H) (m:=m) (l:=l+1) k
 refine⟨e.cells,_,w.alloc (.cells e.cells t),?_,rfl,rfl,rfl,rfl,TN,by rw[←b.1];simp,by rw[b.1];exact Ye _,b.2⟩
 simp[execOp,j,Instr.alloc,zeroValue,typeInfo,hi,c,newVar,newRow]
theorem fV{t:TypeId}{x:Operand}{d:Nat}{z:List AV}(i:o.op=.box t x)(f:o.dst=some d)(j:BL (ev s x)=some z)(h:z≠[])
  (c:Cp l n d t z.length z (fun g=>.ptr (l+1,d) g 0) K ⟨s,H⟩):Bs P l n B o K ⟨s,H⟩:=by
 refine O3 (cap:=1) f (by decide) (fun a w m S k e=>?_) c
 have b:=On (BU e x) j
 refine⟨(a.eval x).cells,_,w.alloc (.cells (a.eval x).cells t),?_,rfl,rfl,rfl,rfl,TN,by rw[←b.1];simp,by rw[b.1];exact Ye _,b.2⟩
 simp[execOp,i,Instr.box,newVar,newRow]
theorem bY{t:TypeId}{p x:Operand}{k:Aa}{g off:Nat}{vs:List AV}(ho:o.op=.store t p x)(hd:o.dst=none)(hp:ev s p=.ptr k g off)(hx:BL (ev s x)=some vs)
  (hg:g=(H k).g) (hl:(H k).live=true) (z:vs.length=P.cellsOf t) (U:vs≠[]) (D:off+vs.length≤(H k).cells.length) (A:k.1=l+1∨vs.all (AV.low k.1)=true)
  (hK:K ⟨s,updH H k {H k with cells:=(H k).cells.take off++vs++(H k).cells.drop (off+vs.length) }⟩):Bs P l n B o K ⟨s,H⟩:=by
 intro a w hR Q
 obtain⟨m,S,L,hn,O,M,he⟩:=hR.un
 have r:=BU M p
 rw[hp]at r
 have F:=On (BU M x) hx
 have Z:0<vs.length:=List.length_pos_iff.2 U
 generalize V:a.eval p=pv at r
 cases r with
 |ptrD k g off v G hg' N I=>rw[N hg]at hl;cases hl
 |ptrL k off G hl'=>
  have j:(m k).cap≠0:=fun e=>by have:=L.empty k G hl e;rw[this,Fl]at D;omega
  obtain⟨C,I,h2,h3,Y⟩:=L.blk k G hl j
  have f:(a.eval x).cells.toList.length=vs.length:=by simp[F.1]
  have E:∀v∈(a.eval x).cells.toList,v.oneCell'=true:=by
   intro v d
   obtain⟨i,hi⟩:=He.1 d
   rw[Yv]at hi
   have T:i<vs.length:=by
    rw[F.1]
    rcases Yw i (a.eval x).cells.size with h|h
    ·exact h
    ·rw[YV h]at hi;cases hi
   exact(F.2 i _ v (Yb T) hi).1
  have W:=run_storeCells_at (P:=P) (m k).b ((m k).o+off) (H k).e.ty (a.eval x).cells.toList 0 C w I (by rw[f];omega) E
  have q:(execOp a.eval o).run P w=.ok .skip (w.setRow (m k).b (C.toList.take ((m k).o+off+0)++(a.eval x).cells.toList++C.toList.drop ((m k).o+off+0+(a.eval x).cells.toList.length)).toArray):=by
   have X:(a.eval x).cells.size=P.cellsOf t:=by rw[←F.1,z]
   simp only[execOp,ho,V,Instr.storeAt,Instr.sureAddr,storeVar,Sem.run_bind,Sem.run_pure,Result.andThen_ok,Ca (P:=P) (t:=t) (show P.cellsOf t≠0 by omega),X,ne_eq,not_true_eq_false,Yr,W]
  simp only[Dw]at q
  obtain⟨k1,k2⟩:=L.write k G hl j ((H k).cells.take off++vs++(H k).cells.drop (off+vs.length))
   (C.toList.take ((m k).o+off)++(a.eval x).cells.toList++C.toList.drop ((m k).o+off+(a.eval x).cells.toList.length)).toArray
   (by simp[f];omega) (by simp;omega)
   (w.setRow (m k).b (C.toList.take ((m k).o+off)++(a.eval x).cells.toList++C.toList.drop ((m k).o+off+(a.eval x).cells.toList.length)).toArray)
   (fun b=>by
    by_cases e:b=(m k).b
    ·subst e;rw[Yj rfl];exact setRow_heap w _ C _ _ _ I
    ·rw[Yq e];exact setRow_other w _ _ _ e)
   (by simp) rfl rfl rfl (fun i y v hi d=>by
    have d:(C.toList.take ((m k).o+off)++(a.eval x).cells.toList++C.toList.drop ((m k).o+off+(a.eval x).cells.toList.length))[(m k).o+i]?=some v:=by simpa using d
    rw[f]at d
    have J:C.toList.length=C.size:=by simp
    have u:(C.toList.take ((m k).o+off)).length=(m k).o+off:=by rw[Y8,J];omega
    have c:((H k).cells.take off).length=off:=by rw[Y8];omega
    rcases Yw i off with h|h
    ·rw[Ep,Yn (by rw[c];omega),YY,Yj h]at hi
     rw[Ep,Yn (by rw[u];omega),YY,Yj (by omega),Yv]at d
     exact Y i y v hi d
    ·rcases Yw i (off+vs.length)with h'|h'
     ·rw[Yn (by rw[YC,c];omega),Ys (by rw[c];omega),c]at hi
      rw[Yn (by rw[YC,u,f];omega),Ys (by rw[u];omega),u,Yv]at d
      rw[show(m k).o+i-((m k).o+off)=i-off from by omega]at d
      obtain⟨q1,q2⟩:=F.2 _ y v hi d
      refine⟨q1,?_⟩
      rcases A with e|e
      ·rw[e];exact q2
      ·exact q2.low (Yo.1 e y (Yi hi))
     ·rw[Ys (by rw[YC,c];omega),YR,YC,c]at hi
      rw[Ys (by rw[YC,u,f];omega),YR,Yv,YC,u,f]at d
      rw[show off+vs.length+(i-(off+vs.length))=i from by omega]at hi
      rw[show(m k).o+off+vs.length+((m k).o+i-((m k).o+off+vs.length))=(m k).o+i from by omega]at d
      exact Y i y v hi d)
  unfold Oper.wp
  rw[q]
  simp only[Oper.upon,hd,Act.put]
  exact⟨_,hK,R.keep k1 hn O M he k2⟩
theorem OM{α:Type}(z:List α)(len:Nat)(i:Nat)(a:z≠[]):(List.replicate len z).flatten[i]?=if i<len*z.length then z[i%z.length]? else none:=by
 have c:0<z.length:=by cases z with|nil=>exact absurd rfl a|cons _ _=>simp
 induction len generalizing i with
 |zero=>simp
 |succ len b=>
  rw[M7,Gk]
  by_cases h:i<z.length
  ·rw[Yn h,Yj (by rw[YK];omega),Gh h]
  ·rw[Ys (by omega),b]
   have e:i%z.length=(i-z.length)%z.length:=by rw[Nat.mod_eq_sub_mod (by omega)]
   grind
theorem Ok.junk(h:Ok l H m S w)(e:∀i,i<w.heap.size→w'.heap[i]?=w.heap[i]?)(k:w.heap.size≤w'.heap.size)(r:w'.os=w.os)(s:w'.tape=w.tape)(t:w'.output=w.output):
  Ok l H m S w'∧Ext l H m S w H m S w':=by
 have a:Ext l H m S w H m S w':=⟨fun _ h=>h,fun b d=>e b (h.sub b d),fun _ _=>Ye _,fun _ _ _ h=>⟨h,rfl,rfl⟩,r,s,t,k⟩
 refine⟨⟨fun b d=>by have:=h.sub b d;omega,h.empty,h.fresh,h.inj,fun q p hl u=>?_,h.mp.step (Ye _) (fun _ _ c _=>⟨c,rfl,rfl⟩) (fun _ h=>h) (fun _ h=>.inl h) a.blk (fun i o n _=>(e i (Gp n)).trans n)⟩,a⟩
 obtain⟨C,f,hs,g,hx⟩:=h.blk q p hl u
 have j:(m q).b<w.heap.size:=by
  grind
 exact⟨C,by rw[e _ j];exact f,hs,g,fun i x v hi c=>⟨(hx i x v hi c).1,(hx i x v hi c).2.ext a p⟩⟩
theorem SX(e:BJ l s H m S a w)(parts:Array (Nat×Operand)):(parts.toList.map fun p=>(p.1,ev s p.2)).length=(parts.map fun(i,x)=>(i,a.eval x)).toList.length∧
  ∀(i:Nat) (p:Nat×AV) (q:Nat×Value),(parts.toList.map fun p=>(p.1,ev s p.2))[i]?=some p→(parts.map fun(i,x)=>(i,a.eval x)).toList[i]?=some q→p.1=q.1∧RepA w S H m l p.2 q.2:=by
 refine⟨by simp,fun i p q b c=>?_⟩
 simp only[Yt,Yv,J7]at b c
 cases d:parts[i]? with
 |none=>rw[d]at b;cases b
 |some o=>
  rw[d]at b c
  simp only[YQ,Yh]at b c
  subst b;subst c
  exact⟨rfl,BU e o.2⟩
theorem Oc{a:Nat→Option (Nat×Nat)}:∀(ps:List (Nat×AV)) (b cs:List AV),Bu a b ps=some cs→cs.length=b.length
 |[],b,cs,h=>by simp only[Bu,Yh]at h;rw[h]
 |(i,x)::ps,b,cs,h=>by
  simp only[Bu]at h
  split at h
  ·split at h
   ·cases h
   ·rename_i c
    rw[Oc ps _ cs h]
    grind
  ·cases h
theorem RS{t e:TypeId}{sz len d:Nat}{parts:Array (Nat×Operand)}{z cs:List AV}(Q:o.op=.buildSlice t (len+1) parts)(O:o.dst=some d)(he:elm P t=some (e,sz))(D:sz≠0)
  (I:(len+1)*sz≤16777216) (T:zer P e=some z) (c:z.length=sz) (G:Bu (fun i=>some (i*sz,sz)) (List.replicate (len+1) z).flatten (parts.toList.map fun p=>(p.1,ev s p.2))=some cs)
  (M:Cp l n d e sz cs (fun g=>.ref (l+1,d) g 0 (len+1)) K ⟨s,H⟩):Bs P l n B o K ⟨s,H⟩:=by
 obtain⟨R,A⟩:=CR he
 have r:z≠[]:=by rintro rfl;simp at c;omega
 refine O3 (cap:=len+1) O (by omega) (fun a w m S W N=>?_) M
 obtain⟨it,j,hi,E,J,_⟩:=Fs (w:=w) (S:=S) (H:=H) (m:=m) (l:=l+1) T
 have b:it.size=sz:=by rw[←A];simp[Program.cellsOf,hi]
 have F:j.cells.size=sz:=by rw[←J.1,c]
 have f:BF w S H m (l+1) (List.replicate (len+1) z).flatten ((Array.range ((len+1)*sz)).map (j.cells[· %j.cells.size]!)):=by
  refine⟨?_,fun i x v hx X=>?_⟩
  ·simp[c]
  ·rw[OM z (len+1) i r]at hx
   split at hx
   ·rename_i y
    rw[c]at hx y
    have hm:i%sz<j.cells.size:=by rw[F];exact Nat.mod_lt _ (by omega)
    have:v=j.cells[i%sz]:=by
     grind
    subst this
    exact J.2 (i%sz) x _ hx (Ym hm)
   grind
 obtain⟨U,V⟩:=SX N parts
 obtain⟨C,L,h⟩:=Kz _ _ _ _ cs f U V G
 have u:=Oc _ _ _ G
 have k:cs.length=(len+1)*sz:=by rw[u];simp[c]
 have q:=run_buildSlice (P:=P) w t e (len+1) (parts.map fun(i,x)=>(i,a.eval x)) C it j R hi E (by rw[b];omega) (by rw[b];exact Nat.mul_ne_zero (by omega) D) (by rw[b];exact L)
 refine⟨C,.slice (some ⟨w.heap.size,0,none⟩) (len+1) (len+1),w.alloc (.cells C e),?_,rfl,rfl,rfl,rfl,?_,by rw[←h.1,k],by rw[h.1];exact Ye _,h.2⟩
 ·simp only[execOp,Q,Sem.run_bind,q,Result.andThen_ok,Sem.run_pure]
 ·rintro H' m' rfl rfl
  have:=RepA.refL (w:=w.alloc (.cells C e)) (S:=S) (H:=updH H (l+1,d) ⟨(H (l+1,d)).g+1,true,e,sz,cs⟩) (m:=AN m (l+1,d) ⟨w.heap.size,0,len+1⟩) (l:=l+1) (l+1,d) 0 (len+1)
   (some ⟨w.heap.size,0,none⟩) (Ye _) (by rw[Au]) (by rw[AE];simp) (fun _=>by rw[AE];simp)
  rw[Au,AE]at this
  exact this
theorem bt{x:AV}{d:D}(h:DI x=some d):BL x=some [x]:=by
 cases x<;>simp only[DI]at h<;>first|(cases h;rfl)|cases h
theorem eb{x:AV}{d:D}{v:Value}(h:DI x=some d)(hx:RepA w S H m l x v):RepD w S d v:=by
 cases x<;>simp only[DI]at h<;>cases h
 ·cases hx with|d _ _ a=>exact a
 ·have:=hx.e0_d;cases this with|d _ _ a=>exact a
theorem Og:∀{xs:List AV} {ds:List D},B0 xs=some ds→xs.map DI=ds.map some
 |[],ds,h=>by cases h;rfl
 |x::xs,ds,h=>by
  simp only[B0]at h
  split at h
  ·rename_i d a b c
   cases h
   simp[b,Og c]
  ·cases h
theorem Ov{xs:List AV}{ds:List D}(h:B0 xs=some ds):xs.length=ds.length:=by
 have:=congrArg List.length (Og h);simpa using this
theorem Tq{xs:List AV}{ds:List D}(h:B0 xs=some ds){i:Nat}{x:AV}{d:D}(hx:xs[i]?=some x)(a:ds[i]?=some d):DI x=some d:=by
 have:=congrArg (fun l=>l[i]?) (Og h)
 grind
theorem ft{x:AV}{e:List D}(h:H9 x=some e):∃vs,BL x=some vs∧B0 vs=some e:=by
 cases x with
 |agg xs=>exact⟨xs,rfl,h⟩
 |_=>
  simp only[H9]at h
  split at h
  ·rename_i d a
   cases h
   refine⟨_,bt a,?_⟩
   simp[B0,a]
  ·cases h
theorem Sb:∀{xs ys:List AV} {ds b:List D},B0 xs=some ds→B0 ys=some b→B0 (xs++ys)=some (ds++b)
 |[],ys,ds,b,a,c=>by cases a;exact c
 |x::xs,ys,ds,b,a,c=>by
  simp only[B0]at a
  split at a
  ·rename_i d e f g
   cases a
   simp[B0,f,Sb g c]
  grind
theorem SN{sz:Nat}{z:List AV}(q:z.length=sz):∀(ps:List (Nat×AV)) (es:List (List D)) (pre:List AV) (i k:Nat),Dm sz i ps=some es→pre.length=i*sz→k=ps.length→
  ∃cs,Bu (fun i=>some (i*sz,sz)) (pre++(List.replicate k z).flatten) ps=some (pre++cs)∧B0 cs=some es.flatten
 |[],es,pre,i,k,h,_,f=>by
  cases h;subst f
  exact⟨[],by simp[Bu],rfl⟩
 |(j,v)::ps,es,pre,i,k,h,p,f=>by
  simp only[Dm]at h
  split at h
  ·rename_i e b he d
   split at h
   ·rename_i o
    cases h
    obtain⟨rfl,c⟩:=o
    obtain⟨vs,m,a⟩:=ft he
    have l:vs.length=sz:=(Ov a).trans c
    subst f
    have g:(pre++(List.replicate (ps.length+1) z).flatten).take (j*sz)++vs++(pre++(List.replicate (ps.length+1) z).flatten).drop (j*sz+vs.length)=(pre++vs)++(List.replicate ps.length z).flatten:=by
     grind
    obtain⟨cs,r,n⟩:=SN q ps b (pre++vs) (j+1) ps.length d (by rw[YC,p,l,YK,IA]) rfl
    refine⟨vs++cs,?_,by rw[Gk];exact Sb a n⟩
    simp only[Bu,m,Y7]
    grind
   ·cases h
  ·cases h
theorem Ok.lit(h:Ok l H m S w)(C:Array Value)(e:TypeId)(w':World)(r:w'.heap=w.heap.push (.cells C e (0,0)))(u:w'.os=w.os)(y:w'.tape=w.tape)(z:w'.output=w.output):
  Ok l H m (fun b=>S b∨b=w.heap.size) w'∧Ext l H m S w H m (fun b=>S b∨b=w.heap.size) w':=by
 have d:∀b,b<w.heap.size→w'.heap[b]?=w.heap[b]?:=fun b a=>by rw[r,Hg,Yq (by omega)]
 have c:Ext l H m S w H m (fun b=>S b∨b=w.heap.size) w':=⟨fun _ h=>.inl h,fun b a=>d b (h.sub b a),fun _ _=>Ye _,fun _ _ _ h=>⟨h,rfl,rfl⟩,u,y,z,by rw[r];simp⟩
 have p:∀q:Aa,q.1≤l→(H q).live=true→(m q).cap≠0→(m q).b<w.heap.size:=fun q f hl k=>by
  obtain⟨C,a,_⟩:=h.blk q f hl k
  grind
 refine⟨⟨fun b a=>?_,h.empty,fun q f hl j=>?_,h.inj,fun q f hl j=>?_,h.mp.step (Ye _) (fun _ _ g _=>⟨g,rfl,rfl⟩) (fun _ h=>.inl h) (fun b a=>a.imp id fun e=>.inl (Nat.le_of_eq e.symm)) c.blk (fun i o s _=>(d i (Gp s)).trans s)⟩,c⟩
 ·rcases a with a|rfl
  ·have:=h.sub b a;rw[r];simp;omega
  grind
 ·rintro(a|a)
  ·exact h.fresh q f hl j a
  grind
 ·obtain⟨t,a,hs,n,hx⟩:=h.blk q f hl j
  exact⟨t,by rw[d _ (p q f hl j)];exact a,hs,n,fun i x v hi g=>⟨(hx i x v hi g).1,(hx i x v hi g).2.ext c f⟩⟩
theorem Te{sz:Nat}:∀{ps:List (Nat×AV)} {i:Nat} {es:List (List D)},Dm sz i ps=some es→ps.length=es.length∧∀e∈es,e.length=sz
 |[],i,es,h=>by cases h;exact⟨rfl,fun _ h=>by cases h⟩
 |(j,v)::ps,i,es,h=>by
  simp only[Dm]at h
  split at h
  ·rename_i e b he a
   split at h
   ·rename_i f
    cases h
    obtain⟨c,d⟩:=Te a
    grind
   ·cases h
  ·cases h
theorem OW{sz:Nat}:∀(es:List (List D)),(∀e∈es,e.length=sz)→∀(i j:Nat) (e:List D) (d:D),es[i]?=some e→e[j]?=some d→es.flatten[i*sz+j]?=some d
 |[],_,i,j,e,d,hi,_=>by simp at hi
 |e0::es,hl,i,j,e,d,hi,a=>by
  have b:e0.length=sz:=hl e0 (by simp)
  cases i with
  |zero=>
   grind
  |succ i=>
   have:=OW es (fun e he=>hl e (by simp[he])) i j e d (by simpa using hi) a
   grind
theorem R4{t e:TypeId}{sz len d:Nat}{parts:Array (Nat×Operand)}{z:List AV}{es:List (List D)}(ho:o.op=.buildSlice t (len+1) parts)(W:o.dst=some d)(he:elm P t=some (e,sz))(hsz:sz≠0)
  (hlim:(len+1)*sz≤16777216) (hz:zer P e=some z) (c:z.length=sz) (hf:Dm sz 0 (parts.toList.map fun p=>(p.1,ev s p.2))=some es) (N:es.length=len+1)
  (Y:d<n) (hK:K ⟨upd s d (.d (.list es)),H⟩):Bs P l n B o K ⟨s,H⟩:=by
 obtain⟨hu,hse⟩:=CR he
 have T:z≠[]:=by rintro rfl;simp at c;omega
 intro a w hR Q
 obtain⟨m,S,hO,hn,X,hS,Z⟩:=hR.un
 obtain⟨hpl,M⟩:=Te hf
 obtain⟨cs,E,u⟩:=SN (sz:=sz) c _ es [] 0 (len+1) hf (by simp) (by rw[hpl,N])
 simp only[Et]at E
 obtain⟨it,I,hi,hz0,hr,_⟩:=Fs (w:=w) (S:=S) (H:=H) (m:=m) (l:=l+1) hz
 have k:it.size=sz:=by rw[←hse];simp[Program.cellsOf,hi]
 have hzv:I.cells.size=sz:=by rw[←hr.1,c]
 have A:BF w S H m (l+1) (List.replicate (len+1) z).flatten ((Array.range ((len+1)*sz)).map (I.cells[· %I.cells.size]!)):=by
  refine⟨?_,fun i x v hx hv=>?_⟩
  ·simp[c]
  ·rw[OM z (len+1) i T]at hx
   split at hx
   ·rename_i r
    rw[c]at hx r
    have hm:i%sz<I.cells.size:=by rw[hzv];exact Nat.mod_lt _ (by omega)
    have:v=I.cells[i%sz]:=by
     grind
    subst this
    exact hr.2 (i%sz) x _ hx (Ym hm)
   grind
 obtain⟨p1,p2⟩:=SX hS parts
 obtain⟨C,hC,L⟩:=Kz _ _ _ _ cs A p1 p2 E
 have V:=Oc _ _ _ E
 have hcl2:cs.length=(len+1)*sz:=by rw[V];simp[c]
 have O:=run_buildSlice (P:=P) w t e (len+1) (parts.map fun(i,x)=>(i,a.eval x)) C it I hu hi hz0 (by rw[k];omega) (by rw[k];exact Nat.mul_ne_zero (by omega) hsz) (by rw[k];exact hC)
 have G:(execOp a.eval o).run P w=.ok (.value (.slice (some ⟨w.heap.size,0,none⟩) (len+1) (len+1))) (w.alloc (.cells C e)):=by
  simp only[execOp,ho,Sem.run_bind,O,Result.andThen_ok,Sem.run_pure]
 obtain⟨k1,k2⟩:=hO.lit C e (w.alloc (.cells C e)) rfl rfl rfl rfl
 refine Cm G ?_
 rw[W]
 refine⟨_,hK,R.step k1 hn X hS Z k2 Y (.d _ _ ?_)⟩
 have J:(w.alloc (.cells C e)).heap[w.heap.size]?=some (.cells C e (0,0)):=by
  show(w.heap.push _)[w.heap.size]?=_
  rw[Hg,Yj rfl]
 have f:∀(i j:Nat) (e':List D) (d':D),es[i]?=some e'→e'[j]?=some d'→∃v,C[i*sz+j]?=some v∧RepD w S d' v:=fun i j e' d' g q=>by
  have F:=OW es M i j e' d' g q
  have r:i*sz+j<cs.length:=by
   rw[Ov u]
   rcases Yw (i*sz+j) es.flatten.length with h|h
   ·exact h
   ·rw[YG h]at F;cases F
  have y:i*sz+j<C.size:=by rw[←L.1];exact r
  exact⟨C[i*sz+j],Ym y,eb (Tq u (Yb r) F) (L.2 _ _ _ (Yb r) (Ym y)).2⟩
 have:=RepD.list (w:=w.alloc (.cells C e)) (S:=fun b=>S b∨b=w.heap.size) es ⟨w.heap.size,0,none⟩ sz (len+1) (fun i j=>(C[i*sz+j]?).getD undef) (fun _=>.inr rfl) (by omega) M
  (fun i j e' d' g q=>by
   obtain⟨v,U,_⟩:=f i j e' d' g q
   rw[Addr.add_lit,Ft J,YL,U]
   rfl)
  (fun i j e' d' g q=>by
   obtain⟨v,U,e2⟩:=f i j e' d' g q
   rw[U]
   have h3:RepA w S H m (l+1) (.d d') v:=.d _ _ e2
   have h4:=h3.ext k2 (Ye _)
   cases h4 with|d _ _ W=>exact W)
 rw[N]at this
 exact this
theorem ai{t e:TypeId}{sz d:Nat}{parts:Array (Nat×Operand)}(v:o.op=.buildSlice t 0 parts)(r:o.dst=some d)(he:elm P t=some (e,sz))(z:sz≠0)(x:parts.size=0)(f:d<n)
  (j:K ⟨upd s d .e0,H⟩):Bs P l n B o K ⟨s,H⟩:=by
 obtain⟨A,y⟩:=CR he
 intro a w p Q
 obtain⟨m,S,k,u,c,q,g⟩:=p.un
 have h:parts=#[]:=Kb x
 subst h
 have b:(execOp a.eval o).run P w=.ok (.value (.slice (some ⟨w.heap.size,0,none⟩) 0 0)) (w.alloc (.cells #[] e)):=by
  simp[execOp,v,Instr.buildSlice,run_underlying A,Ca (P:=P) (t:=e) (by omega),Instr.fill,newRow]
  grind
 obtain⟨C,D⟩:=k.junk (w':=w.alloc (.cells #[] e)) (fun i hi=>by show(w.heap.push _)[i]?=_;rw[Hg,Yq (by omega)]) (by simp) rfl rfl rfl
 refine Cm b ?_
 rw[r]
 exact⟨_,j,R.step C u c q g D f (.e0 _)⟩
end
section
variable {P:Program} {l n:Nat} {B:Base} {H H':Hp} {m m':Mu} {S S':Nat→Prop} {w w':World} {s:Nat→AV} {a:Act} {K:St→Prop} {o:Oper}
theorem eL{news:List AV}{C:Array Value}(h:BF w S H m l news C):∀u∈C.toList,u.oneCell'=true:=by
 intro v b
 obtain⟨i,hi⟩:=He.1 b
 rw[Yv]at hi
 have a:i<news.length:=by
  rw[h.1]
  grind
 exact(h.2 i _ v (Yb a) hi).1
theorem Sy{t e:TypeId}{sz:Nat}(F:P.underlying t=some (.slice e))(hsz:sz≠0){y:AV}{v:Value}{c:Nat}{news:List AV}(h:FU H sz y=some (c,news))(hO:Ok (l+1) H m S w)(hy:RepA w S H m (l+1) y v):
  ∃C:Array Value,Src P sz t v c C.toList w∧BF w S H m (l+1) news C∧news.length=c*sz:=by
 unfold FU at h
 split at h
 ·simp only[Yh,DX]at h
  obtain⟨rfl,rfl⟩:=h
  cases hy with
  |e0 W=>
   refine⟨#[],?_,⟨rfl,fun i x v hi=>by simp at hi⟩,by simp⟩
   cases W with
   |none=>exact Src.ofNil w F 0
   |some ad=>exact Src.ofSlice w F ad 0 0 [] (by simp) (fun j u h=>by simp at h) (fun u h=>by cases h)
 ·rename_i es
  split at h
  ·rename_i r
   simp only[Yh,DX]at h
   obtain⟨rfl,rfl⟩:=h
   have p:∀e∈es,e.length=sz:=fun e he=>by simpa using Yo.1 r e he
   have B:es.flatten.length=es.length*sz:=by
    clear r hy
    induction es with
    |nil=>simp
    |cons e es V=>
     rw[Gk,YC,V (fun e he=>p e (Yy _ he)),p e (YH ..),Y7,YK]
     omega
   cases hy with
   |d _ _ R=>
    cases R with
    |nil=>exact⟨#[],Src.ofNil w F 0,⟨rfl,fun i x v hi=>by simp at hi⟩,by simp⟩
    |list es ad X cap G hb z A L N=>
     have Q:∀(q:Nat) (x:D),es.flatten[q]?=some x→∃e,es[q/sz]?=some e∧e[q%sz]?=some x:=by
      clear r L N hb z A B
      induction es with
      |nil=>intro q x h;simp at h
      |cons e es V=>
       intro q x h
       have he:e.length=sz:=p e (YH ..)
       rw[Gk]at h
       rcases Yw q sz with M|M
       ·rw[Yn (by omega)]at h
        exact⟨e,by rw[Nat.div_eq_of_lt M];rfl,by rw[Gh M];exact h⟩
       ·rw[Ys (by omega),he]at h
        obtain⟨e',s,J⟩:=V (fun e he=>p e (Yy _ he)) (q-sz) x h
        refine⟨e',?_,?_⟩
        ·rw[Nat.div_eq_sub_div (by omega) M];simpa using s
        ·rw[Nat.mod_eq_sub_mod M];exact J
     have b:∀(q:Nat) (x:D),es.flatten[q]?=some x→w.cell? (ad.add q)=some (G (q/sz) (q%sz))∧RepD w S x (G (q/sz) (q%sz)):=by
      intro q x h
      obtain⟨e,s,J⟩:=Q q x h
      have O:X=sz:=by rw[←A e (Yi s),p e (Yi s)]
      have:=L _ _ _ _ s J
      rw[O,Nat.mul_comm (q/sz) sz,Nat.div_add_mod]at this
      exact⟨this,N _ _ _ _ s J⟩
     refine⟨((List.range (es.length*sz)).map fun q=>G (q/sz) (q%sz)).toArray,?_,⟨by rw[YF,B];simp,fun i x v hi f=>?_⟩,by rw[YF,B]⟩
     ·refine Src.ofSlice w F ad es.length cap _ (by simp) (fun j u a=>?_) (fun u U=>?_)
      ·have a:((List.range (es.length*sz)).map fun q=>G (q/sz) (q%sz))[j]?=some u:=by simpa using a
       have o:j<es.length*sz:=by
        rcases Yw j (es.length*sz)with h|h
        ·exact h
        ·rw[YG (by simpa using h)]at a;cases a
       rw[Yb (by simpa using o)]at a
       simp only[Nr,Nl,Yh]at a
       subst a
       exact(b j _ (Yb (by omega))).1
      ·obtain⟨j,a⟩:=He.1 U
       have a:((List.range (es.length*sz)).map fun q=>G (q/sz) (q%sz))[j]?=some u:=by simpa using a
       have o:j<es.length*sz:=by
        rcases Yw j (es.length*sz)with h|h
        ·exact h
        ·rw[YG (by simpa using h)]at a;cases a
       rw[Yb (by simpa using o)]at a
       simp only[Nr,Nl,Yh]at a
       subst a
       exact(b j _ (Yb (by omega))).2.one
     ·have f:((List.range (es.length*sz)).map fun q=>G (q/sz) (q%sz))[i]?=some v:=by simpa using f
      have o:i<es.length*sz:=by
       rcases Yw i (es.length*sz)with h|h
       ·exact h
       ·rw[YG (by simpa using h)]at f;cases f
      rw[Yb (by simpa using o)]at f
      simp only[Nr,Nl,Yh]at f
      subst f
      rw[Yt,Yb (by omega)]at hi
      simp only[YQ,Yh]at hi
      subst hi
      have:=b i _ (Yb (by omega))
      exact⟨this.2.one,.d _ _ this.2⟩
  ·cases h
 ·rename_i k g off I
  split at h
  ·rename_i hc
   obtain⟨hg,hl,hs,E⟩:=hc
   simp only[Yh,DX]at h
   obtain⟨rfl,rfl⟩:=h
   cases hy with
   |refD k g off n v Y hg' R s=>rw[R hg]at hl;cases hl
   |refL k off I W Y hl' hn ha=>
    by_cases hz:I=0
    ·subst hz
     refine⟨#[],?_,⟨by simp,fun i x v hi=>by simp at hi⟩,by simp⟩
     cases W with
     |none=>exact Src.ofNil w F _
     |some ad=>exact Src.ofSlice w F ad 0 _ [] (by simp) (fun j u h=>by simp at h) (fun u h=>by cases h)
    ·have T:=ha (by omega)
     subst T
     have Z:0<I*sz:=Kk (by omega) (by omega)
     obtain⟨z,C,s,J,h3,h4⟩:=hO.row Y hl (by
      intro e
      rw[e,YK]at E
      simp at E
      omega)
     rw[YK]at E
     have K:BF w S H m (l+1) (((H k).cells.drop (off*sz)).take (I*sz)) (C.extract ((m k).o+off*sz) ((m k).o+off*sz+I*sz)):=by
      refine⟨by simp;omega,fun i x v hi f=>?_⟩
      rw[Gi]at f
      split at f
      ·rename_i o
       rw[YY]at hi
       split at hi
       ·rw[YR]at hi
        obtain⟨v',O,e2,e3⟩:=h4 _ x hi
        rw[Yu,O]at f
        simp only[Yh]at f
        subst f
        exact⟨e2,e3⟩
       ·cases hi
      ·cases f
     refine⟨_,?_,K,by simp;omega⟩
     refine Src.ofSlice w F _ I _ _ (by simp;omega) (fun j u a=>?_) (eL K)
     rw[Yv,Gi]at a
     split at a
     ·rw[Addr.add_lit,Ft s,←a,hs]
     ·cases a
  ·cases h
 ·cases h
theorem aH(t j ty e:TypeId)(i:TypeInfo)(m:P.underlying t=some (.slice e))(hi:P.info? e=some i)(b off a d:Nat)(x:Value)(c:Nat)(news:List Value)(hs:Src P i.size j x c news w)
  (f:a+c≤d) (C:Array Value) (k:w.heap[b]?=some (.cells C e (0,0))) (l:off+a*i.size+news.length≤C.size):
  (Builtin.append_ #[t,j] ty #[.slice (some ⟨b,off,none⟩) a d,x]).run P w=
   .ok (.slice (some ⟨b,off,none⟩) (a+c) d) (w.setRow b (C.toList.take (off+a*i.size)++news++C.toList.drop (off+a*i.size+news.length)).toArray):=by
 have g:=run_storeCells_at (P:=P) b (off+a*i.size) e news 0 C w k (by omega) hs.one
 simp only[Dw]at g
 rcases hs.kind with⟨e',h⟩|h<;>simp[Builtin.append_,run_underlying m,run_underlying h,sizeOf,typeInfo,hi,hs.len,f,hs.cells,Addr.add_lit,g]
theorem Ok.overEmpty(h:Ok l H m S w)(k:Aa)(z:k.1≤l)(g:Nat)(e:TypeId)(sz:Nat)(y:(H k).g<g)(M:MB)(u:M.cap=0):
  Ok l (updH H k ⟨g,true,e,sz,[]⟩) (AN m k M) S w∧Ext l H m S w (updH H k ⟨g,true,e,sz,[]⟩) (AN m k M) S w:=by
 have d:Ext l H m S w (updH H k ⟨g,true,e,sz,[]⟩) (AN m k M) S w:=by
  refine⟨fun _ h=>h,fun _ _=>rfl,fun q b=>?_,fun q b j hl=>?_,rfl,rfl,rfl,Ye _⟩
  ·by_cases e:q=k
   ·subst e;rw[Au];simp only;omega
   ·rw[Al _ _ e];exact Ye _
  ·by_cases e:q=k
   ·subst e;rw[Au]at j;simp only at j;omega
   ·rw[Al _ _ e]at hl⊢;rw[AC _ _ e];exact⟨hl,rfl,rfl⟩
 have c:∀q:Aa,(AN m k M q).cap≠0→q≠k:=by
  rintro q b rfl
  rw[AE]at b
  grind
 refine⟨⟨h.sub,fun q b hl a=>?_,fun q b hl a=>?_,fun q s b p hl n a f heq=>?_,fun q b hl a=>?_,h.mp.upd (Ye _) k _ rfl (fun q e=>AC _ _ e) (fun _ h=>h) (fun _ h=>.inl h) (fun _ _=>rfl) (fun _ _ h _=>h)⟩,d⟩
 ·by_cases e:q=k
  ·subst e;rw[Au]
  ·rw[Al _ _ e]at hl⊢;rw[AC _ _ e]at a;exact h.empty q b hl a
 ·have e:=c q a
  rw[Al _ _ e]at hl;rw[AC _ _ e]at a⊢;exact h.fresh q b hl a
 ·have e:=c q a
  have e':=c s f
  rw[AC _ _ e,AC _ _ e']at heq
  rw[Al _ _ e]at hl
  rw[Al _ _ e']at n
  rw[AC _ _ e]at a
  rw[AC _ _ e']at f
  exact h.inj q s b p hl n a f heq
 ·have e:=c q a
  rw[Al _ _ e]at hl⊢
  rw[AC _ _ e]at a⊢
  obtain⟨C,t,hs,o,hx⟩:=h.blk q b hl a
  exact⟨C,t,hs,o,fun i x v hi r=>⟨(hx i x v hi r).1,(hx i x v hi r).2.ext d b⟩⟩
theorem TR{z:List AV}{b:Array Value}(f:z≠[])(d:BF w S H m l z b)(n q:Nat)(h:n≤q):
  (madeCells b (q*z.length)).size=q*z.length∧∀(i:Nat) (x:AV) (v:Value),(List.replicate n z).flatten[i]?=some x→(madeCells b (q*z.length))[i]?=some v→v.oneCell'=true∧RepA w S H m l x v:=by
 refine⟨size_madeCells _ _,fun i x v hx e=>?_⟩
 have g:0<z.length:=List.length_pos_iff.2 f
 rw[OM z n i f]at hx
 split at hx
 ·rename_i c
  have a:i<q*z.length:=Hf c (YP _ h)
  have hm:i%z.length<b.size:=by rw[←d.1];exact Nat.mod_lt _ g
  have:v=b[i%z.length]:=by
   unfold madeCells at e
   simp only[J7,Array.getElem?_range,a,Yx,YQ,Yh,←d.1]at e
   grind
  subst this
  exact d.2 _ x _ hx (Ym hm)
 grind
theorem eT{t e:TypeId}{sz d:Nat}{x y:Operand}{A C:IntKind}{c b:Int}{z:List AV}(ho:o.op=.makeSlice t x y)(hd:o.dst=some d)(he:elm P t=some (e,sz))(hx:ev s x=.d (.int A c))(hy:ev s y=.d (.int C b))
  (h1:0≤c) (h2:c≤b) (hsz:sz≠0) (hbn:P.bytesOf e≠0) (hb:(P.bytesOf e:Int)*b≤140737488355328) (hz:zer P e=some z) (r:z.length=sz)
  (D:Cp l n d e sz (List.replicate c.toNat z).flatten (fun g=>.ref (l+1,d) g 0 c.toNat) K ⟨s,H⟩):Bs P l n B o K ⟨s,H⟩:=by
 obtain⟨hu,W⟩:=CR he
 have L:z≠[]:=by rintro rfl;simp at r;omega
 intro a w hR Q
 obtain⟨m,S,hO,hn,G,N,I⟩:=hR.un
 obtain⟨it,u,hi,Z,hr,_⟩:=Fs (w:=w) (S:=S) (H:=H) (m:=m) (l:=l+1) hz
 have f:it.size=sz:=by rw[←W];simp[Program.cellsOf,hi]
 have T:P.bytesOf e=it.bytes:=by simp[Program.bytesOf,hi]
 have hc':b≤140737488355328:=by
  have:(1:Int)*b≤(P.bytesOf e:Int)*b:=Q8 (by omega) (by omega)
  omega
 have p:=BU N x
 have q:=BU N y
 rw[hx]at p
 rw[hy]at q
 generalize X:a.eval x=xv at p
 generalize Y:a.eval y=yv at q
 cases p
 rename_i U
 cases q
 rename_i V
 cases U
 cases V
 have J:=run_make (P:=P) (w:=w) t e it u hu hi Z A C c b h1 h2 (by rw[←T];omega) (by omega)
 have k:(execOp a.eval o).run P w=.ok (.value (.slice (some ⟨w.heap.size,0,none⟩) c.toNat b.toNat)) (w.alloc (.cells (madeCells u.cells (b.toNat*it.size)) e)):=by
  simp only[execOp,ho,X,Y,Sem.run_bind,J,Result.andThen_ok,Sem.run_pure]
 refine Cm k ?_
 rw[hd]
 have j:c.toNat≤b.toNat:=by omega
 by_cases E:b.toNat=0
 ·have F:c.toNat=0:=by omega
  obtain⟨j1,j2⟩:=hO.junk (w':=w.alloc (.cells (madeCells u.cells (b.toNat*it.size)) e)) (fun i hi=>by show(w.heap.push _)[i]?=_;rw[Hg,Yq (by omega)]) (by simp) rfl rfl rfl
  obtain⟨A,C⟩:=j1.overEmpty (l+1,d) (Ye _) ((H (l+1,d)).g+1) e sz (Y9 _) ⟨0,0,0⟩ rfl
  rw[F]at D
  have e0:Value.slice (some ⟨w.heap.size,0,none⟩) c.toNat b.toNat=.slice (some ⟨w.heap.size,0,none⟩) 0 0:=by rw[E,F]
  rw[e0]
  refine⟨_,D.2,R.step A hn G N I (j2.trans C) D.1 ?_⟩
  have:=RepA.refL (w:=w.alloc (.cells (madeCells u.cells (b.toNat*it.size)) e)) (S:=S) (H:=updH H (l+1,d) ⟨(H (l+1,d)).g+1,true,e,sz,[]⟩) (m:=AN m (l+1,d) ⟨0,0,0⟩) (l:=l+1) (l+1,d) 0 0
   (some ⟨w.heap.size,0,none⟩) (Ye _) (by rw[Au]) (by rw[AE];simp) (fun h=>by rw[AE]at h;simp at h)
  rw[Au,AE]at this
  exact this
 ·obtain⟨M,O⟩:=TR L hr c.toNat b.toNat j
  rw[r]at M O
  rw[←f]at M O
  obtain⟨A,C⟩:=hO.alloc (l+1,d) (Ye _) e sz b.toNat (List.replicate c.toNat z).flatten (madeCells u.cells (b.toNat*it.size)) E (by rw[M,f])
   (by rw[M,f];simp[r];exact YP _ j) (fun i x v hx hv=>O i x v hx hv) (w.alloc (.cells (madeCells u.cells (b.toNat*it.size)) e)) rfl rfl rfl rfl
  refine⟨_,D.2,R.step A hn G N I C D.1 ?_⟩
  have:=RepA.refL (w:=w.alloc (.cells (madeCells u.cells (b.toNat*it.size)) e)) (S:=S) (H:=updH H (l+1,d) ⟨(H (l+1,d)).g+1,true,e,sz,(List.replicate c.toNat z).flatten⟩) (m:=AN m (l+1,d) ⟨w.heap.size,0,b.toNat⟩) (l:=l+1) (l+1,d) 0 c.toNat
   (some ⟨w.heap.size,0,none⟩) (Ye _) (by rw[Au]) (by rw[AE];simp only[YL];exact j) (fun _=>by rw[AE];simp)
  rw[Au,AE]at this
  grind
theorem T1{Z:Array Value}{Y:Array Value}{news:List AV}{ys:List AV}(hy:BF w S H m l ys Y)(c:BF w S H m l news Z)(X:Array Value):
  ∀(i:Nat) (x:AV) (v:Value),(ys++news)[i]?=some x→((Y.toList++Z.toList).toArray++X)[0+i]?=some v→v.oneCell'=true∧RepA w S H m l x v:=by
 intro i x v hx a
 have d:=hy.1
 have e:=c.1
 rw[YL]at a
 have b:i<(ys++news).length:=by
  grind
 rw[YC]at b
 rw[M8 (by simp;omega)]at a
 have a:(Y.toList++Z.toList)[i]?=some v:=by simpa using a
 rcases Yw i ys.length with h|h
 ·rw[Yn h]at hx
  rw[Yn (by simp;omega),Yv]at a
  exact hy.2 i x v hx a
 ·rw[Ys h]at hx
  rw[Ys (by simp;omega),Yv]at a
  simp only[Fi]at a
  rw[←d]at a
  exact c.2 _ x v hx a
theorem RX(z:Array Value)(k:Nat):(Builtin.zeroCells z k).size=k*z.size:=by simp[Builtin.zeroCells]
theorem S0{c b:Nat}(a:b≠0)(h:c*b≤140737488355328):c≤140737488355328:=Y2 (Nat.le_mul_of_pos_right c (by omega)) h
theorem TE(w:World)(c o:Nat)(e:TypeId):c≤grownCap w c o e:=by unfold grownCap Question.cut;exact Nat.le_add_right _ _
theorem OY(w:World)(o:Obj):∀i,(w.alloc o).heap[i]?=if i=w.heap.size then some o else w.heap[i]?:=fun i=>by
 show(w.heap.push o)[i]?=_
 grind
theorem cY{t:TypeId}{x y:Operand}{d:Nat}{c:Call}(ho:o.op=.call c)(hc:c.callee=.builtin .append)(hargs:c.args=#[x,y])(hts:c.argTypes=#[t,t])(hd:o.dst=some d)
  (h:H4 P l n d t (ev s x) (ev s y) K ⟨s,H⟩):Bs P l n B o K ⟨s,H⟩:=by
 unfold H4 at h
 split at h
 case h_2=>exact h.elim
 rename_i e sz he
 obtain⟨hu,hse⟩:=CR he
 obtain⟨hsz,hbne,hzs,h⟩:=h
 obtain⟨z,hz⟩:=YM.1 hzs
 split at h
 case h_2=>exact h.elim
 rename_i cnt news hsrc
 obtain⟨hone,h⟩:=h
 intro a w hR Q
 obtain⟨m,S,hO,hn,O,hS,T⟩:=hR.un
 obtain⟨C,u,N,J⟩:=Sy hu hsz hsrc hO (BU hS y)
 obtain⟨it,zv,hi,hz0,hzr,Z⟩:=Fs (w:=w) (S:=S) (H:=H) (m:=m) (l:=l+1) hz
 have p:it.size=sz:=by rw[←hse];simp[Program.cellsOf,hi]
 have hby:P.bytesOf e=it.bytes:=by simp[Program.bytesOf,hi]
 have A:C.size=cnt*sz:=by rw[←N.1,J]
 have hx:=BU hS x
 have run:∀{v:Value} {w':World},(Builtin.append_ #[t,t] o.type #[a.eval x,a.eval y]).run P w=.ok v w'→(execOp a.eval o).run P w=.ok (.value v) w':=by
  intro v w' h
  unfold execOp
  simp[ho,resolve,hc,hargs,hts,invoke,builtin,h]
 split at h
 ·
  rename_i hxe
  obtain⟨hb,h0,h1⟩:=h
  rw[hxe]at hx
  generalize hxv:a.eval x=xv at hx run
  cases hx with
  |e0 r=>
   by_cases L:cnt=0
   ·obtain⟨E,hK⟩:=h0 L
    subst L
    have X:(Builtin.append_ #[t,t] o.type #[.slice r 0 0,a.eval y]).run P w=.ok (.slice r 0 0) w:=by
     have hC0:C=#[]:=Kb (by simpa using A)
     have h2:=u.cells
     rw[hC0]at h2
     rcases u.kind with⟨e',U⟩|U<;>cases r<;>simp[Builtin.append_,run_underlying hu,sizeOf,typeInfo,hi,u.len,p,h2,storeCells]
    refine Cm (run X) ?_
    rw[hd]
    exact⟨_,hK,R.step hO hn O hS T (Ext.refl _ _ _ _ _) E (.e0 r)⟩
   ·obtain⟨E,hK⟩:=h1 L
    have V:(Builtin.firstCells it.size 0 (.slice r 0 0)).run P w.drew=.ok ([]:List Value).toArray w.drew:=by
     cases r with
     |none=>exact run_firstCells_none _ _ _ _ _
     |some ad=>exact run_firstCells_some _ _ _ _ _ _ [] (by simp) (fun j v h=>by simp at h)
    have hg:=run_append_grow_src (P:=P) w t t o.type e it zv hu hi hz0 r 0 0 [] V (a.eval y) cnt C.toList (by rw[p];exact u) (by omega)
     (by have:=S0 hbne hb;omega) (growslice_fits (by omega) (by rw[YL,←hby];exact hb))
    rw[YL]at hg
    have hG:cnt≤grownCap w cnt 0 e:=TE _ _ _ _
    obtain⟨k1,k2⟩:=hO.over (l+1,d) (Ye _) ⟨(H (l+1,d)).g+1,true,e,sz,news⟩ ⟨w.heap.size,0,grownCap w cnt 0 e⟩ (Y9 _) rfl (by simp only;omega)
     ((([]:List Value)++C.toList).toArray++Builtin.zeroCells zv.cells (grownCap w cnt 0 e-cnt))
     (w.drew.alloc (.cells ((([]:List Value)++C.toList).toArray++Builtin.zeroCells zv.cells (grownCap w cnt 0 e-cnt)) e)) (OY _ _) (.inl rfl)
     (by simp[RX,A,←hzr.1,Z,p,Nat.sub_mul];rw[←Nat.add_sub_assoc (YP _ hG)];omega)
     (by simp only[J];exact YP _ hG)
     (by simpa using T1 (ys:=[]) (Y:=#[]) ⟨rfl,fun i x v h=>by simp at h⟩ N _)
     (by simp) rfl rfl rfl
    refine Cm (run hg) ?_
    rw[hd]
    refine⟨_,hK,R.step k1 hn O hS T k2 E ?_⟩
    have:=RepA.refL (w:=w.drew.alloc (.cells ((([]:List Value)++C.toList).toArray++Builtin.zeroCells zv.cells (grownCap w cnt 0 e-cnt)) e)) (S:=S)
     (H:=updH H (l+1,d) ⟨(H (l+1,d)).g+1,true,e,sz,news⟩) (m:=AN m (l+1,d) ⟨w.heap.size,0,grownCap w cnt 0 e⟩) (l:=l+1) (l+1,d) 0 cnt
     (some ⟨w.heap.size,0,none⟩) (Ye _) (by rw[Au]) (by rw[AE];simp only;omega) (fun _=>by rw[AE];simp)
    rw[Au,AE]at this
    exact this
 ·
  rename_i k g off f hxe
  obtain⟨hg,hl,hs,hee,hend,hb,hlow,E,hK⟩:=h
  rw[hxe]at hx
  generalize hxv:a.eval x=xv at hx run
  cases hx with
  |refD k g off n v U hg' hd' h1=>rw[hd' hg]at hl;cases hl
  |refL k off f r U hl' hn' ha=>
   have hlowR:∀{y:AV} {v:Value},y∈news→RepA w S H m (l+1) y v→RepA w S H m k.1 y v:=by
    intro y v hy hr
    rcases hlow with e|e
    ·rw[e];exact hr
    ·exact hr.low (Yo.1 e y hy)
   have hcr':BF w S H m k.1 news C:=⟨N.1,fun i y v hy D=>⟨(N.2 i y v hy D).1,hlowR (Yi hy) (N.2 i y v hy D).2⟩⟩
   have q:((H k).cells.drop (off*sz)).length=f*sz:=by rw[Es,←hend,YK];omega
   have ref:∀(W:World) (cs:List AV) (M:MB) (r:Option Addr),f+cnt≤M.cap→(0<M.cap→r=some ⟨M.b,M.o,none⟩)→
     RepA W S (updH H k ⟨(H k).g+1,true,e,sz,cs⟩) (AN m k M) (l+1) (.ref k ((H k).g+1) 0 (f+cnt)) (.slice r (f+cnt) M.cap):=by
    intro W cs M r h1 h2
    have:=RepA.refL (w:=W) (S:=S) (H:=updH H k ⟨(H k).g+1,true,e,sz,cs⟩) (m:=AN m k M) (l:=l+1) k 0 (f+cnt) r U (by rw[Au]) (by rw[AE];omega)
     (fun h=>by rw[AE]at h⊢;rw[h2 h];simp)
    rw[Au,AE]at this
    exact this
   by_cases F:f+cnt≤(m k).cap-off
   ·by_cases hz0':(m k).cap-off=0
    ·
     have h1:f=0:=by omega
     have h2:cnt=0:=by omega
     subst h1;subst h2
     have hC0:C=#[]:=Kb (by simpa using A)
     have hn0:news=[]:=YZ (by simpa using J)
     have hd0:(H k).cells.drop (off*sz)=[]:=YZ (by simpa using q)
     have X:(Builtin.append_ #[t,t] o.type #[.slice r 0 ((m k).cap-off),a.eval y]).run P w=.ok (.slice r 0 0) w:=by
      have h2:=u.cells
      rw[hC0]at h2
      rw[hz0']
      rcases u.kind with⟨e',U⟩|U<;>cases r<;>simp[Builtin.append_,run_underlying hu,sizeOf,typeInfo,hi,u.len,p,h2,storeCells]
     obtain⟨k1,k2⟩:=hO.overEmpty k U ((H k).g+1) e sz (Y9 _) ⟨0,0,0⟩ rfl
     refine Cm (run X) ?_
     rw[hd]
     refine⟨_,hK,?_⟩
     simp only[hd0,hn0,J0]
     exact R.step k1 hn O hS T k2 E (ref w [] ⟨0,0,0⟩ r (Ye _) (fun h=>absurd h (by simp)))
    ·have hoa:=ha (by omega)
     subst hoa
     have G:(m k).cap≠0:=by omega
     obtain⟨I,b1,b2,b3,b4⟩:=hO.blk k U hl G
     rw[hs]at b2 b3
     have hcm:(m k).cap*sz=off*sz+((m k).cap-off)*sz:=by rw[←YK];congr 1;omega
     have hrm:(f+cnt)*sz≤((m k).cap-off)*sz:=YP _ F
     rw[YK]at hrm
     rw[hee]at b1
     have hin:=aH (P:=P) (w:=w) t t o.type e it hu hi (m k).b ((m k).o+off*(H k).sz) f ((m k).cap-off) (a.eval y) cnt C.toList (by rw[p];exact u) F I b1
      (by rw[p,hs,Fi,A];omega)
     rw[p,hs,Fi,A]at hin
     rw[hs]at run
     have hC0l:I.toList.length=I.size:=by simp
     have hT:(I.toList.take ((m k).o+off*sz+f*sz)).length=(m k).o+off*sz+f*sz:=by rw[Y8,hC0l];omega
     obtain⟨k1,k2⟩:=hO.over k U ⟨(H k).g+1,true,e,sz,(H k).cells.drop (off*sz)++news⟩ ⟨(m k).b,(m k).o+off*sz,(m k).cap-off⟩ (Y9 _) rfl (by simp only;omega)
      (I.toList.take ((m k).o+off*sz+f*sz)++C.toList++I.toList.drop ((m k).o+off*sz+f*sz+cnt*sz)).toArray
      (w.setRow (m k).b (I.toList.take ((m k).o+off*sz+f*sz)++C.toList++I.toList.drop ((m k).o+off*sz+f*sz+cnt*sz)).toArray)
      (fun b=>by
       by_cases e:b=(m k).b
       ·subst e;rw[Yj rfl];exact setRow_heap w _ I _ _ _ b1
       ·rw[Yq e];exact setRow_other w _ _ _ e)
      (.inr ⟨rfl,hl,G⟩)
      (by simp only[List.size_toArray,YC,hT,Fi,A,Es];omega)
      (by simp only[YC,q,J];exact hrm)
      (fun i x v hx D=>by
       have D:(I.toList.take ((m k).o+off*sz+f*sz)++C.toList++I.toList.drop ((m k).o+off*sz+f*sz+cnt*sz))[(m k).o+off*sz+i]?=some v:=by simpa using D
       have hlt:i<((H k).cells.drop (off*sz)++news).length:=by
        rcases Yw i ((H k).cells.drop (off*sz)++news).length with h|h
        ·exact h
        ·rw[YG h]at hx;cases hx
       rw[YC,q,J]at hlt
       rw[Yn (by rw[YC,hT,Fi,A];omega)]at D
       rcases Yw i (f*sz)with h|h
       ·rw[Yn (by rw[q];exact h),YR]at hx
        rw[Yn (by rw[hT];omega),YY,Yj (by omega),Yv,Yu]at D
        exact b4 _ x v hx D
       ·rw[Ys (by rw[q];exact h),q]at hx
        rw[Ys (by rw[hT];omega),hT,Yv]at D
        rw[show(m k).o+off*sz+i-((m k).o+off*sz+f*sz)=i-f*sz from by omega]at D
        exact hcr'.2 _ x v hx D)
      (by simp) rfl rfl rfl
     refine Cm (run hin) ?_
     rw[hd]
     exact⟨_,hK,R.step k1 hn O hS T k2 E (ref _ _ ⟨(m k).b,(m k).o+off*sz,(m k).cap-off⟩ _ F (fun _=>rfl))⟩
   ·
    have hY:∃Y:Array Value,(Builtin.firstCells it.size f (.slice r f ((m k).cap-off))).run P w.drew=.ok Y.toList.toArray w.drew∧BF w S H m k.1 ((H k).cells.drop (off*sz)) Y:=by
     by_cases L:f=0
     ·subst L
      have hd0:(H k).cells.drop (off*sz)=[]:=YZ (by simpa using q)
      rw[hd0]
      refine⟨#[],?_,rfl,fun i x v h=>by simp at h⟩
      cases r with
      |none=>exact run_firstCells_none _ _ _ _ _
      |some ad=>exact run_firstCells_some _ _ _ _ _ _ [] (by simp) (fun j v h=>by simp at h)
     ·have hoa:=ha (by omega)
      subst hoa
      have G:(m k).cap≠0:=by omega
      obtain⟨I,b1,b2,b3,b4⟩:=hO.blk k U hl G
      rw[hs]at b2 b3
      have hcm:(m k).cap*sz=off*sz+((m k).cap-off)*sz:=by rw[←YK];congr 1;omega
      have hrm:f*sz≤((m k).cap-off)*sz:=YP _ (by omega)
      refine⟨I.extract ((m k).o+off*sz) ((m k).o+off*sz+f*sz),?_,by rw[q];simp;omega,fun i x v hx D=>?_⟩
      ·refine run_firstCells_some _ _ _ _ _ _ _ (by rw[p];simp;omega) (fun j v hj=>?_)
       rw[Yv,Gi]at hj
       split at hj
       ·rw[Addr.add_lit,hs,←hj]
        exact Ft (w:=w.drew) b1 _
       ·cases hj
      ·rw[Gi]at D
       split at D
       ·rw[YR]at hx
        rw[Yu]at D
        exact b4 _ x v hx D
       ·cases D
    obtain⟨Y,V,hYr⟩:=hY
    have hg':=run_append_grow_src (P:=P) w t t o.type e it zv hu hi hz0 r f ((m k).cap-off) Y.toList V (a.eval y) cnt C.toList (by rw[p];exact u) (by omega)
     (by have:=S0 hbne hb;omega) (growslice_fits (by omega) (by rw[←hby];exact hb))
    have hG:f+cnt≤grownCap w (f+cnt) ((m k).cap-off) e:=TE _ _ _ _
    have hGm:=YP sz hG
    rw[YK]at hGm
    have hYl:Y.size=f*sz:=by rw[←hYr.1,q]
    obtain⟨k1,k2⟩:=hO.over k U ⟨(H k).g+1,true,e,sz,(H k).cells.drop (off*sz)++news⟩ ⟨w.heap.size,0,grownCap w (f+cnt) ((m k).cap-off) e⟩ (Y9 _) rfl (by simp only;omega)
     ((Y.toList++C.toList).toArray++Builtin.zeroCells zv.cells (grownCap w (f+cnt) ((m k).cap-off) e-(f+cnt)))
     (w.drew.alloc (.cells ((Y.toList++C.toList).toArray++Builtin.zeroCells zv.cells (grownCap w (f+cnt) ((m k).cap-off) e-(f+cnt))) e)) (OY _ _) (.inl rfl)
     (by simp[RX,A,hYl,←hzr.1,Z,p,Nat.sub_mul,YK];omega)
     (by simp only[YC,q,J];exact hGm)
     (T1 hYr hcr' _)
     (by simp) rfl rfl rfl
    refine Cm (run hg') ?_
    rw[hd]
    exact⟨_,hK,R.step k1 hn O hS T k2 E (ref _ _ ⟨w.heap.size,0,grownCap w (f+cnt) ((m k).cap-off) e⟩ _ hG (fun _=>rfl))⟩
 ·exact h.elim
end
def E0(s:Nat→AV)(ds:List (Option Nat))(i:Nat)(b:Bool):Option Bool:=
 match ds[i]? with
 |some (some d)=>match s d with|.d (.bool t)=>some (t==b)|.tup []=>some false|_=>none
 |_=>none
def A5(P:Program)(l n:Nat)(B:Base)(c:Code)(Q:Exit→St→Prop)(σ:St):Prop:=
 ∀a w,R l n B σ a w→c.wp P (fun e d w'=>∃b,Q e b∧R l n B b d w') a w
def WA(K:St→Prop)(Q:Exit→St→Prop):Exit→St→Prop
 |.normal,σ=>K σ
 |e,σ=>Q e σ
def K9(id:Nat)(Q:Exit→St→Prop):Exit→St→Prop
 |.exit i,σ=>if i=id then Q .normal σ else Q (.exit i) σ
 |e,σ=>Q e σ
section
variable {P:Program} {l n:Nat} {B:Base} {H H':Hp} {m m':Mu} {S S':Nat→Prop} {w w':World} {s:Nat→AV} {a:Act} {K:St→Prop} {o:Oper} {σ:St} {Q:Exit→St→Prop}
theorem Tm{xs ys:List AV}{vs d:Array Value}(h:Gx w S H m l xs vs)(k:Gx w S H m l ys d):Gx w S H m l (xs++ys) (vs++d):=by
 refine⟨by simp[h.1,k.1],fun i x v hx c=>?_⟩
 rcases Yw i xs.length with b|a
 ·rw[Yn b]at hx
  rw[M8 (by rw[←h.1];exact b)]at c
  exact h.2 i x v hx c
 ·rw[Ys a]at hx
  rw[Array.getElem?_append_right (by rw[←h.1];exact a),←h.1]at c
  exact k.2 _ x v hx c
theorem S7{c:Call}{f:Operand}{g:FuncId}{first b:List AV}(O:o.op=.call c)(M:c.callee=.value f)(N:ev s f=.fn (.func g) first b)
  (h:Zbb P g (l+1) (first++c.args.toList.map (ev s)++b) H (Jw n o.dst K ⟨s,H⟩)):Bs P l n B o K ⟨s,H⟩:=by
 intro a w L Q
 obtain⟨m,S,J,A,q,y,t⟩:=L.un
 obtain⟨⟨fn,cd,F,G,I⟩,h⟩:=h
 have j:=BU y f
 rw[N]at j
 generalize U:a.eval f=V at j
 cases j with
 |fn _ _ _ vs C hx hy D E=>
  have i:Gx w S H m (l+1) (first++c.args.toList.map (ev s)++b) (vs++c.args.map a.eval++C):=
   Tm (Tm ⟨hx,D⟩ (I2 y c.args)) ⟨hy,E⟩
  have u:(execOp a.eval o).run P w=.ok (.enter g (vs++c.args.map a.eval++C)) w:=by
   unfold execOp
   simp only[O,resolve,M,U,Deferred.ofValue,Sem.run_bind,Sem.run_pure,Result.andThen_ok,invoke]
   exact Go.MuLone.run_callFunc_enter F I G _ w
  unfold Oper.wp
  rw[u]
  refine(h m S w _ J i).mono fun e w' ⟨r,v,H',m',S',he,k,p,T,x⟩=>?_
  subst he
  unfold Jw Bv at k
  cases z:o.dst with
  |none=>
   rw[z]at k
   exact⟨_,k,R.keep p A q y t x⟩
  |some d=>
   rw[z]at k
   exact⟨_,k.2,R.step p A q y t x k.1 T⟩
theorem Gs(h:AX P l n o K σ):Bs P l n B o K σ:=by
 obtain⟨s,H⟩:=σ
 unfold AX at h
 split at h
 ·rename_i t a
  split at h
  ·rename_i d z b j;exact bW a b j h.1 h.2
  grind
 ·rename_i t x a
  split at h
  ·rename_i d z b j;exact fV a b j h.1 h.2
  grind
 ·rename_i t p x a
  split at h
  ·rename_i k g off vs b Q hx
   obtain⟨r,A,C,D,E,N,O⟩:=h
   exact bY a b Q hx r A C D E N O
  grind
 ·rename_i t len parts a
  split at h
  ·rename_i d e sz b he
   obtain⟨q,h⟩:=h
   split at h
   ·exact ai a b he q h.1 h.2.1 h.2.2
   ·rename_i len
    obtain⟨i,h⟩:=h
    split at h
    ·rename_i z j
     obtain⟨w,h⟩:=h
     split at h
     ·rename_i S u;exact R4 a b he q i j w u h.1 h.2.1 h.2.2
     ·split at h
      ·rename_i cs u;exact RS a b he q i j w u h
      grind
    grind
  grind
 ·rename_i t x y a
  split at h
  ·rename_i d e sz T c U R b he hx hy
   obtain⟨r,A,C,D,E,h⟩:=h
   split at h
   ·rename_i z j;exact eT a b he hx hy r A C D E j h.1 h.2
   grind
  grind
 ·rename_i c a
  split at h
  ·rename_i f F
   split at h
   ·rename_i g first G u;exact S7 a F u h
   grind
  ·rename_i F
   split at h
   ·rename_i d x y t I b m v
    obtain⟨r,h⟩:=h
    have J:c.args=#[x,y]:=BO (by simpa using m)
    have L:I=t:=by
     have:c.argTypes=#[t,I]:=BO (by simpa using v)
     grind
    have M:c.argTypes=#[t,t]:=BO (by rw[v,L])
    exact cY a F J M b h
   grind
  ·rename_i r A;exact K7 h
 ·exact K7 h
theorem Oq{ops:Array Oper}(n:BJ l s H m S a w){i:Nat}{b t:Bool}(h:E0 s (ops.toList.map (·.dst)) i b=some t):(yielded ops a.tmps i==some b)=t:=by
 unfold E0 at h
 split at h
 ·rename_i d f
  have e:=n d
  rw[Yt,Yv]at f
  cases j:ops[i]? with
  |none=>rw[j]at f;cases f
  |some o=>
   rw[j]at f
   simp only[YQ,Yh]at f
   split at h
   ·rename_i q k
    simp only[Yh]at h
    subst h
    rw[k]at e
    have c:d<a.tmps.size:=by
     rcases Yw d a.tmps.size with c|g
     ·exact c
     ·exfalso
      rw[Yp,YV g]at e
      simp only[Option.getD_none]at e
      generalize p:undef=u at e
      cases e with
      |d _ _ f=>cases f;cases p
    unfold yielded
    rw[j]
    simp only[Yg,f,Ym c]
    rw[Yp,Ym c]at e
    simp only[Fk]at e
    generalize a.tmps[d]=v at e
    cases e with
    |d _ _ f=>cases f;cases q<;>cases b<;>rfl
   ·rename_i k
    simp only[Yh]at h
    subst h
    rw[k]at e
    unfold yielded
    rw[j]
    simp only[Yg,f]
    rcases Yw d a.tmps.size with c|g
    ·simp only[Ym c]
     rw[Yp,Ym c]at e
     simp only[Fk]at e
     generalize a.tmps[d]=v at e
     cases e with
     |tup _ _ _ _=>rfl
    grind
   ·cases h
 ·cases h
theorem N9{ops:Array Oper}{b:List Oper}{KK:St→Prop}{QQ:Exit→Act→World→Prop}(p:Region.wanted o (yielded ops a.tmps)=true)(h:Bs P l n B o KK σ)(m:R l n B σ a w)
  (k:∀d j w',KK d→R l n B d j w'→wpList P ops QQ b j w'):wpList P ops QQ (o::b) a w:=by
 unfold wpList
 rw[Yj p]
 refine .inl ?_
 have:=h a w m QQ
 unfold Oper.wp at this⊢
 revert this
 generalize (execOp a.eval o).run P w=r
 have mono:∀(r:Result Next),o.upon P a (fun j w'=>∃d,KK d∧R l n B d j w') QQ r→o.upon P a (wpList P ops QQ b) QQ r:=by
  intro r h
  cases r with
  |ok x q=>
   cases x<;>first
    |exact h
    |(simp only[Oper.upon]at h⊢;obtain⟨d,g,i⟩:=h;exact k d _ _ g i)
    |skip
   ·rename_i f args
    simp only[Oper.upon]at h⊢
    refine Calls.mono h fun e w2 he=>?_
    cases e with
    |returned v=>obtain⟨d,g,i⟩:=he;exact k d _ _ g i
    |panicked c=>exact he
    |outgrown=>exact he
   ·rename_i row args
    simp only[Oper.upon]at h⊢
    exact Rows.mono h fun v w2 ⟨d,g,i⟩=>k d _ _ g i
  |halt x q=>cases x<;>exact h
 exact mono r
theorem R.undef{d:Nat}(f:R l n B σ a w)(j:d<n):R l n B ⟨upd σ.s d (.tup []),σ.H⟩ (a.put (some d) undef) w:=by
 obtain⟨s,H⟩:=σ
 obtain⟨m,S,e,k,b,g,c⟩:=f.un
 exact R.step e k b g c (Ext.refl _ _ _ _ _) j (.tup [] #[] rfl (fun i x v h=>by simp at h))
theorem Ey{c:Code}{b:Exit→St→Prop}(h:A5 P l n B c Q σ)(i:∀e σ,Q e σ→b e σ):A5 P l n B c b σ:=
 fun a w g=>wp_mono (h a w g) fun _ _ _ ⟨j,d,f⟩=>⟨j,i _ _ d,f⟩
theorem eh(h:Q .normal σ):A5 P l n B .skip Q σ:=fun _ _ a=>wp_skip ⟨σ,h,a⟩
theorem hP(h:Q .ret σ):A5 P l n B .ret Q σ:=fun _ _ a=>wp_ret ⟨σ,h,a⟩
theorem fm{id:Nat}(h:Q (.exit id) σ):A5 P l n B (.exit id) Q σ:=fun _ _ a=>wp_exit ⟨σ,h,a⟩
theorem gJ{x y:Code}(h:∀K:St→Prop,(∀b,A5 P l n B y Q b→K b)→A5 P l n B x (WA K Q) σ):A5 P l n B (.seq x y) Q σ:=by
 intro a w i
 refine wp_seq (wp_mono (h _ (fun _ h=>h) a w i) fun e g w' ⟨b,d,f⟩=>?_)
 cases e with
 |normal=>exact d g w' f
 |exit id=>exact⟨b,d,f⟩
 |goto id=>exact⟨b,d,f⟩
 |ret=>exact⟨b,d,f⟩
 |panic c=>exact⟨b,d,f⟩
 |outgrown=>exact⟨b,d,f⟩
theorem gV(b:R l n B σ a w){c:Operand}{t:Bool}(h:ev σ.s c=.d (.bool t)):a.eval c=.bool t:=by
 obtain⟨s,H⟩:=σ
 obtain⟨m,S,j,k,g,e,i⟩:=b.un
 have:=BU e c
 rw[show ev s c=.d (.bool t)from h]at this
 generalize a.eval c=v at this
 cases this with
 |d _ _ f=>cases f;rfl
theorem IX{c:Operand}{x y:Code}{t:Bool}(g:ev σ.s c=.d (.bool t))(d:t=true→A5 P l n B x Q σ)(f:t=false→A5 P l n B y Q σ):A5 P l n B (.cond c x y) Q σ:=
 fun a w b=>wp_cond_split (gV b g) (fun e=>d e a w b) (fun e=>f e a w b)
theorem SO{id:Nat}{c:Code}(h:A5 P l n B c (K9 id Q) σ):A5 P l n B (.block id c) Q σ:=by
 intro a w g
 refine wp_block (wp_mono (h a w g) fun e j w' ⟨f,b,d⟩=>?_)
 cases e with
 |exit i=>
  unfold K9 at b
  unfold Exit.inBlock
  grind
 |normal=>exact⟨f,b,d⟩
 |goto id=>exact⟨f,b,d⟩
 |ret=>exact⟨f,b,d⟩
 |panic c=>exact⟨f,b,d⟩
 |outgrown=>exact⟨f,b,d⟩
end
end Go.Eng
