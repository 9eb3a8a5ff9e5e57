import Derived.Test.YthgmbpciandpiaaGreatLx06
import Derived.Test.YthgmbpciandpiaaGreatLx00
namespace Go.Eng
set_option linter.all false
open Go Go.RowKit
def Ge(cs:List AV):Prop:=∀x∈cs,(match x with|.d _=>true|_=>false)=true
section
variable {P:Program} {l n:Nat} {B:Base} {H H':Hp} {m m':Mu} {S S':Nat→Prop} {w w':World} {s:Nat→AV} {a:Act} {K:St→Prop} {o:Oper}
theorem Ok.lay(r:Ok (l+1) H m S w){k:Ad}(s:k.1≤l+1)(hl:(H k).live=true){off:Nat}{vs:List AV}{cs:Array Value}(p:CW w S H m (l+1) vs cs)(A:0<vs.length)
  (n:off+vs.length≤(H k).cells.length) (j:k.1=l+1∨vs.all (AV.low k.1)=true):
  (m k).cap≠0∧∃C:Array Value,w.heap[(m k).b]?=some (.cells C (H k).e.ty (0,0))∧(m k).o+off+cs.toList.length≤C.size∧(∀v∈cs.toList,v.oneCell'=true)∧
   Ok (l+1) (updH H k {H k with cells:=(H k).cells.take off++vs++(H k).cells.drop (off+vs.length) }) m S (w.setRow (m k).b (C.toList.take ((m k).o+off)++cs.toList++C.toList.drop ((m k).o+off+cs.toList.length)).toArray)∧
   Ext (l+1) H m S w (updH H k {H k with cells:=(H k).cells.take off++vs++(H k).cells.drop (off+vs.length) }) m S (w.setRow (m k).b (C.toList.take ((m k).o+off)++cs.toList++C.toList.drop ((m k).o+off+cs.toList.length)).toArray):=by
 have f:(m k).cap≠0:=fun e=>by have:=r.empty k s hl e;rw[this,EW]at n;omega
 obtain⟨C,x,G,I,z⟩:=r.blk k s hl f
 have d:cs.toList.length=vs.length:=by simp[p.1]
 have o:∀v∈cs.toList,v.oneCell'=true:=by
  intro v c
  obtain⟨i,hi⟩:=YD.1 c
  rw[Yr]at hi
  have u:i<vs.length:=by
   rw[p.1]
   rcases YH i cs.size with h|h
   ·exact h
   ·rw[F7 h]at hi;cases hi
  exact(p.2 i _ v (Ya u) hi).1
 have t:(m k).o+off+cs.toList.length≤C.size:=by rw[d];omega
 have B:=r.write k s hl f ((H k).cells.take off++vs++(H k).cells.drop (off+vs.length))
   (C.toList.take ((m k).o+off)++cs.toList++C.toList.drop ((m k).o+off+cs.toList.length)).toArray
   (by simp[d];omega) (by simp;omega)
   (w.setRow (m k).b (C.toList.take ((m k).o+off)++cs.toList++C.toList.drop ((m k).o+off+cs.toList.length)).toArray)
   (fun b=>by
    by_cases e:b=(m k).b
    ·subst e;rw[Yg rfl];exact setRow_heap w _ C _ _ _ x
    ·rw[Yj e];exact setRow_other w _ _ _ e)
   (by simp) rfl rfl rfl (fun i y v hi c=>by
    have c:(C.toList.take ((m k).o+off)++cs.toList++C.toList.drop ((m k).o+off+cs.toList.length))[(m k).o+i]?=some v:=by simpa using c
    rw[d]at c
    have q:C.toList.length=C.size:=by simp
    have g:(C.toList.take ((m k).o+off)).length=(m k).o+off:=by rw[Yy,q];omega
    have a:((H k).cells.take off).length=off:=by rw[Yy];omega
    rcases YH i off with h|h
    ·rw[Fu,Yn (by rw[a];omega),YR,Yg h]at hi
     rw[Fu,Yn (by rw[g];omega),YR,Yg (by omega),Yr]at c
     exact z i y v hi c
    ·rcases YH i (off+vs.length)with E|E
     ·rw[Yn (by rw[Yo,a];omega),Yt (by rw[a];omega),a]at hi
      rw[Yn (by rw[Yo,g,d];omega),Yt (by rw[g];omega),g,Yr]at c
      rw[show(m k).o+i-((m k).o+off)=i-off from by omega]at c
      obtain⟨F,D⟩:=p.2 _ y v hi c
      refine⟨F,?_⟩
      rcases j with e|e
      ·rw[e];exact D
      ·exact D.low (Yq.1 e y (Yk hi))
     ·rw[Yt (by rw[Yo,a];omega),YO,Yo,a]at hi
      rw[Yt (by rw[Yo,g,d];omega),YO,Yr,Yo,g,d]at c
      rw[show off+vs.length+(i-(off+vs.length))=i from by omega]at hi
      rw[show(m k).o+off+vs.length+((m k).o+i-((m k).o+off+vs.length))=(m k).o+i from by omega]at c
      exact z i y v hi c)
 exact⟨f,C,x,t,o,B.1,B.2⟩
theorem ZLp(C:List AV)(off:Nat):C.take off++[]++C.drop (off+([]:List AV).length)=C:=by simp
theorem Uk(H:Hp)(k:Ad)(b:Blk)(h:b=H k):updH H k b=H:=by funext q;unfold updH;split<;>simp_all
theorem ZBq{x y:Operand}{t t' e:TypeId}{k:Ad}{g off cn sz cnt:Nat}{news:List AV}(ho:o.op=.call ⟨.builtin .copy,#[x,y],#[t,t']⟩)(hx:ev s x=.ref k g off cn)(he:elm P t=some (e,sz))(Z:elm P t'=some (e,sz))(hi:(zer P e).isSome=true)
  (hsz:sz≠0) (hg:g=(H k).g) (hl:(H k).live=true) (hs:(H k).sz=sz) (I:IK H sz (ev s y)=some (cnt,news)) (hle:cnt≤cn) (E:off*sz+news.length≤(H k).cells.length)
  (A:k.1=l+1∨news.all (AV.low k.1)=true) (W:CL n o.dst K ⟨s,updH H k {H k with cells:=(H k).cells.take (off*sz)++news++(H k).cells.drop (off*sz+news.length) }⟩ (.d (.int .i64 cnt))):Ca P l n B o K ⟨s,H⟩:=by
 intro a w hR Q
 obtain⟨m,S,X,hn,r,M,u⟩:=hR.un
 obtain⟨hu,hse⟩:=Fc he
 obtain⟨hu',_⟩:=Fc Z
 obtain⟨z,hz⟩:=F6.1 hi
 obtain⟨it,zv,j,hz0,hzr,_⟩:=IY (w:=w) (S:=S) (H:=H) (m:=m) (l:=l+1) hz
 have f:it.size=sz:=by rw[←hse];simp[Program.cellsOf,j]
 obtain⟨C,c,q,D⟩:=Zi3 hu' hsz I X (Cg M y)
 have hp:=Cg M x
 rw[hx]at hp
 generalize hpv:a.eval x=pv at hp
 have fin:∀(w':World) (H':Hp),Ok (l+1) H' m S w'→Ext (l+1) H m S w H' m S w'→CL n o.dst K ⟨s,H'⟩ (.d (.int .i64 cnt))→(Builtin.copy_ #[t,t'] o.type #[pv,a.eval y]).run P w=.ok (goInt cnt) w'→
   o.wp P a w (fun a' w'=>∃σ',K σ'∧R l n B σ' a' w') Q:=fun w' H' N O b G=>by
  have p:(execOp a.eval o).run P w=.ok (.value (goInt cnt)) w':=by
   simp[execOp,ho,resolve,invoke,Go.builtin,hpv,G]
  unfold CL at b
  refine CP p ?_
  cases hd:o.dst with
  |none=>
   rw[hd]at b
   exact⟨_,b,R.keep N hn r M u O⟩
  |some d=>
   rw[hd]at b
   exact⟨_,b.2,R.step N hn r M u O b.1 (.d _ _ (.int _ _))⟩
 cases hp with
 |refD k g off cn v b hg' Y h1=>rw[Y hg]at hl;cases hl
 |refL k off cn oa b hl' hn' ha=>
  have i:Nat.min cnt cn=cnt:=Le hle
  rcases XA news.length with T|F
  ·have hn0:news=[]:=Ir T
   have V:C=#[]:=QH (by rw[←q.1,T])
   have hcnt:cnt=0:=by
    rw[T]at D
    rcases Nat.mul_eq_zero.1 D.symm with h|h
    ·exact h
    grind
   subst hn0
   rw[ZLp,Uk H k _ rfl]at W
   refine fin w H X (Ext.refl _ _ _ _ _) W ?_
   have L:=c.cells
   rw[V]at L
   have U:=c.len w
   cases oa<;>simp[Builtin.copy_,run_underlying hu,U,sizeOf,typeInfo,j,f,i,L,storeCells]
  ·obtain⟨hcap,C0,b1,b2,b3,N,O⟩:=X.lay b hl q F E A
   have hc1:0<cnt:=by
    grind
   have hoa:=ha (by omega)
   subst hoa
   refine fin _ _ N O W ?_
   have J:=run_storeCells_at (P:=P) (m k).b ((m k).o+off*sz) (H k).e.ty C.toList 0 C0 w b1 (by omega) b3
   simp only[EA]at J
   have L:=c.cells
   have U:=c.len w
   rw[hs]
   simp[Builtin.copy_,run_underlying hu,U,sizeOf,typeInfo,j,f,i,L,J]
theorem Zsa{x:Operand}{t e:TypeId}{k:Ad}{g off cn sz:Nat}{z:List AV}(ho:o.op=.call ⟨.builtin .clear,#[x],#[t]⟩)(hd:o.dst=none)(hx:ev s x=.ref k g off cn)(he:elm P t=some (e,sz))(hz:zer P e=some z)(j:z.length=sz)
  (hsz:sz≠0) (hg:g=(H k).g) (hl:(H k).live=true) (hs:(H k).sz=sz) (d:(off+cn)*sz≤(H k).cells.length) (p:k.1=l+1∨z.all (AV.low k.1)=true)
  (J:K ⟨s,updH H k {H k with cells:=(H k).cells.take (off*sz)++(List.replicate cn z).flatten++(H k).cells.drop ((off+cn)*sz) }⟩):Ca P l n B o K ⟨s,H⟩:=by
 intro a w hR Q
 obtain⟨m,S,Z,hn,M,hS,N⟩:=hR.un
 obtain⟨hu,hse⟩:=Fc he
 have C:z≠[]:=by rintro rfl;simp at j;omega
 obtain⟨it,E,O,X,D,_⟩:=IY (w:=w) (S:=S) (H:=H) (m:=m) (l:=l+1) hz
 have U:=Cg hS x
 rw[hx]at U
 generalize V:a.eval x=pv at U
 have fin:∀(w':World) (H':Hp),Ok (l+1) H' m S w'→Ext (l+1) H m S w H' m S w'→K ⟨s,H'⟩→(Builtin.clear_ #[t] o.type #[pv]).run P w=.ok (.tuple #[]) w'→
   o.wp P a w (fun a' w'=>∃σ',K σ'∧R l n B σ' a' w') Q:=fun w' H' G I F y=>by
  have i:(execOp a.eval o).run P w=.ok (.value (.tuple #[])) w':=by
   simp[execOp,ho,resolve,invoke,Go.builtin,V,y]
  refine CP i ?_
  rw[hd]
  exact⟨_,F,R.keep G hn M hS N I⟩
 cases U with
 |refD k g off cn v F hg' L h1=>rw[L hg]at hl;cases hl
 |refL k off cn oa F hl' hn' ha=>
  rcases XA cn with h0|r
  ·subst h0
   have e1:(H k).cells.take (off*sz)++(List.replicate 0 z).flatten++(H k).cells.drop ((off+0)*sz)=(H k).cells:=by simp
   rw[e1,Uk H k _ rfl]at J
   refine fin w H Z (Ext.refl _ _ _ _ _) J ?_
   cases oa<;>simp[Builtin.clear_,run_underlying hu]
  ·obtain⟨g1,g2⟩:=Zt5 C D cn cn (Yf _)
   have b:((List.replicate cn z).flatten).length=cn*sz:=by simp[j]
   have Y:E.cells.size=z.length:=D.1.symm
   have hr:CW w S H m (l+1) (List.replicate cn z).flatten (Builtin.zeroCells E.cells cn):=by
    have e:Builtin.zeroCells E.cells cn=madeCells E.cells (cn*z.length):=by unfold Builtin.zeroCells madeCells;rw[Y]
    rw[e]
    exact⟨by rw[g1,b,j],g2⟩
   have f:0<cn*sz:=QJ r (by omega)
   rw[YT]at d
   obtain⟨hcap,C0,b1,b2,b3,G,I⟩:=Z.lay F hl hr (by rw[b];exact f) (by rw[b];exact d) (p.imp id fun h=>by
    refine Yq.2 fun q hq=>?_
    obtain⟨z',W,u⟩:=Q0.1 hq
    rw[(QT.1 W).2]at u
    exact Yq.1 h q u)
   have T:=ha (by omega)
   subst T
   rw[b,←YT]at G I
   refine fin _ _ G I J ?_
   have A:=run_storeCells_at (P:=P) (m k).b ((m k).o+off*sz) (H k).e.ty (Builtin.zeroCells E.cells cn).toList 0 C0 w b1 (by omega) b3
   simp only[EA]at A
   rw[hs]
   obtain⟨cn',rfl⟩:∃c,cn=c+1:=⟨cn-1,by omega⟩
   simp[Builtin.clear_,run_underlying hu,zeroValue,typeInfo,O,X,A]
theorem Zjb{L J:Nat}{k:Ad}{off c:Nat}{es:List (List D)}(O:Ok (l+1) H m S w)(R:k.1≤l+1)(hl:(H k).live=true)(o:es.length=c)(Z:(H k).sz≠0)(q:∀e∈es,e.length=(H k).sz)
  (E:(off+c)*(H k).sz≤(H k).cells.length) (N:((H k).cells.drop (off*(H k).sz)).take (c*(H k).sz)=es.flatten.map .d) {v:Value} (I:RepA w S H m L (.ref k (H k).g off c) v):
  RepA w (fun b=>S b∨(b=(m k).b∧(m k).cap≠0)) H' m' J (.d (.list es)) v:=by
 generalize hg:(H k).g=g at I
 cases I with
 |refD _ _ _ _ _ y P s o=>rw[s hg.symm]at hl;cases hl
 |refL _ _ _ U y T G F=>
  by_cases A:c=0
  ·subst A
   have:es=[]:=Ir o
   subst this
   cases U with
   |none=>
    have e:(m k).cap-off=0:=by
     rcases YH off (m k).cap with h|h
     ·have:=F h;cases this
     ·omega
    rw[e]
    exact .d _ _ .nil
   |some ad=>exact .d _ _ (.list [] ad 0 _ (fun _ _=>.bool true) (fun h=>absurd rfl h) (Ft _) (fun _ h=>by cases h) (fun i j e x h=>by simp at h) (fun i j e x h=>by simp at h))
  ·have B:=F (by omega)
   subst B
   obtain⟨r,C,K,X,Y,M⟩:=O.row (k:=k) R hl (by
    intro e
    rw[e,YT]at E
    have:=QJ (show 0<c by omega) (show 0<(H k).sz by omega)
    simp at E
    omega)
   have f:∀(i j:Nat) (e:List D) (d:D),es[i]?=some e→e[j]?=some d→∃u,C[(m k).o+((off+i)*(H k).sz+j)]?=some u∧RepD w S d u:=by
    intro i j e d hi a
    have t:i<c:=by
     rw[←o]
     rcases YH i es.length with h|h
     ·exact h
     ·rw[YK h]at hi;cases hi
    have Q:j<(H k).sz:=by
     rw[←q e (Yk hi)]
     rcases YH j e.length with h|h
     ·exact h
     ·rw[YK h]at a;cases a
    have n:=iB es q i j e d hi a
    have z:i*(H k).sz+j<c*(H k).sz:=by
     have:(i+1)*(H k).sz≤c*(H k).sz:=YY _ t
     rw[YT]at this
     omega
    have p:(H k).cells[(off+i)*(H k).sz+j]?=some (.d d):=by
     have:=congrArg (fun l=>l[i*(H k).sz+j]?) N
     simp only[YR,Yg z,YO,YL,n,YZ]at this
     rw[←this,YT,YE]
    obtain⟨u,V,_,W⟩:=M _ _ p
    cases W with
    |d _ _ s=>exact⟨u,V,s⟩
   have:=RepD.list (w:=w) (S:=fun b=>S b∨(b=(m k).b∧(m k).cap≠0)) es ⟨(m k).b,(m k).o+off*(H k).sz,none⟩ (H k).sz ((m k).cap-off) (fun i j=>(C[(m k).o+((off+i)*(H k).sz+j)]?).getD undef)
    (fun _=>.inr ⟨rfl,r⟩) (by omega) q
    (fun i j e d hi a=>by
     obtain⟨v,n,_⟩:=f i j e d hi a
     rw[Addr.add_lit,GG K]
     rw[show(m k).o+off*(H k).sz+(i*(H k).sz+j)=(m k).o+((off+i)*(H k).sz+j)from by rw[YT];omega,n]
     rfl)
    (fun i j e d hi a=>by
     obtain⟨v,n,p⟩:=f i j e d hi a
     rw[n]
     exact p.mono (fun _ h=>.inl h) (fun _ _=>rfl))
   rw[o]at this
   exact .d _ _ this
def IE:List (Nat×List (List D))→(Nat→AV)→Nat→AV
 |[],s=>s
 |(j,es)::r,s=>IE r (upd s j (.d (.list es)))
def Hn:List (Ad×Nat×List (List D))→Hp→Hp
 |[],H=>H
 |(k,i,es)::r,H=>Hn r (updH H k ⟨(H k).g,(H k).live,(H k).e,(H k).sz,(H k).cells.set i (.d (.list es))⟩)
theorem ZiU{L:Nat}:∀(c:List (Nat×List (List D))) {s:Nat→AV},C1 L s H m S a w→(∀p∈c,RepA w S H m L (.d (.list p.2)) (a.tmps.getD p.1 undef))→C1 L (IE c s) H m S a w
 |[],s,h,_=>h
 |(j,es)::r,s,h,b=>ZiU r (fun i=>by
   simp only[upd]
   by_cases hi:i=j
   ·subst hi;rw[Yg rfl];exact b (i,es) (YB ..)
   ·rw[Yj hi];exact h i) (fun p d=>b p (Ys _ d))
theorem Ok.cell{L:Nat}(h:Ok L H m S w)(k:Ad)(g:k.1≤L)(hl:(H k).live=true)(i:Nat)(x:AV)(s:∀C:Array Value,w.heap[(m k).b]?=some (.cells C (H k).e.ty (0,0))→∀v,C[(m k).o+i]?=some v→(H k).cells[i]?≠none→RepA w S H m k.1 x v):
  Ok L (updH H k ⟨(H k).g,(H k).live,(H k).e,(H k).sz,(H k).cells.set i x⟩) m S w∧Ext L H m S w (updH H k ⟨(H k).g,(H k).live,(H k).e,(H k).sz,(H k).cells.set i x⟩) m S w:=by
 by_cases a:(m k).cap=0
 ·have o:=h.empty k g hl a
  have e:(⟨(H k).g,(H k).live,(H k).e,(H k).sz,(H k).cells.set i x⟩:Blk)=H k:=by rw[o];simp;rw[←o]
  rw[e,Uk H k _ rfl]
  exact⟨h,Ext.refl _ _ _ _ _⟩
 ·obtain⟨C,p,q,r,n⟩:=h.blk k g hl a
  have:=h.write k g hl a ((H k).cells.set i x) C q (by simpa using r) w (fun b=>by split<;>simp_all) rfl rfl rfl rfl (fun j y v c l=>by
   rw[XC]at c
   split at c
   ·rename_i f
    subst f
    split at c
    ·rename_i d
     simp only[Yi]at c
     subst c
     exact⟨(n i _ v (Ya d) l).1,s C p v l (by rw[Ya d];simp)⟩
    ·cases c
   ·exact n j y v c l)
  exact this
theorem Zwt{L:Nat}:∀(cs:List (Ad×Nat×List (List D))) {H:Hp},Ok L H m S w→(∀p∈cs,p.1.1≤L∧(H p.1).live=true∧∀C:Array Value,w.heap[(m p.1).b]?=some (.cells C (H p.1).e.ty (0,0))→∀v,C[(m p.1).o+p.2.1]?=some v→(H p.1).cells[p.2.1]?≠none→∀H' f,RepA w S H' m f (.d (.list p.2.2)) v)→
  Ok L (Hn cs H) m S w∧Ext L H m S w (Hn cs H) m S w
 |[],H,h,_=>⟨h,Ext.refl _ _ _ _ _⟩
 |(k,i,es)::r,H,h,a=>by
  obtain⟨u,x,y⟩:=a _ (YB ..)
  obtain⟨g,j⟩:=h.cell k u x i (.d (.list es)) (fun C o v t q=>y C o v t q _ _)
  obtain⟨l,n⟩:=Zwt r g (fun p s=>by
   obtain⟨b,c,d⟩:=a p (Ys _ s)
   by_cases e:p.1=k
   ·rw[e]at b c d⊢
    rw[AO]
    grind
   ·rw[AJ _ _ e];exact⟨b,c,d⟩)
  exact⟨l,j.trans n⟩
theorem R.freeze{a:Act}(h:R l n B ⟨s,H⟩ a w){k:Ad}(t:k.1≤l+1)(hl:(H k).live=true)(E:(H k).sz≠0)(x:List (Nat×List (List D)))(cs:List (Ad×Nat×List (List D)))
  (r:∀p∈x,∃off c,s p.1=.ref k (H k).g off c∧p.2.length=c∧(∀e∈p.2,e.length=(H k).sz)∧(off+c)*(H k).sz≤(H k).cells.length∧((H k).cells.drop (off*(H k).sz)).take (c*(H k).sz)=p.2.flatten.map .d)
  (o:∀p∈cs,p.1≠k∧p.1.1≤l+1∧(H p.1).live=true∧∃off c,(H p.1).cells[p.2.1]?=some (.ref k (H k).g off c)∧p.2.2.length=c∧(∀e∈p.2.2,e.length=(H k).sz)∧(off+c)*(H k).sz≤(H k).cells.length∧
   ((H k).cells.drop (off*(H k).sz)).take (c*(H k).sz)=p.2.2.flatten.map .d):R l n B ⟨IE x s,Hn cs (updH H k {H k with live:=false })⟩ a w:=by
 obtain⟨m,S,f,N,q,y,hex⟩:=h.un
 obtain⟨P,F⟩:=f.kill k t hl
 have i:=y.ext F
 have j:=ZiU x i (fun p u=>by
  obtain⟨off,c,b,d,K,L,M⟩:=r p u
  have A:=y p.1
  rw[b]at A
  exact Zjb f t hl d E K L M A)
 obtain⟨Q,G⟩:=Zwt cs P (fun p u=>by
  obtain⟨e0,b,d,off,c,f1,f2,f3,f4,f5⟩:=o p u
  rw[AJ _ _ e0]
  refine⟨b,d,fun C z v O _ H' U=>?_⟩
  have g:(m p.1).cap≠0:=fun e=>by
   have:=f.empty p.1 b d e
   grind
  obtain⟨T,I,V,W,J⟩:=f.blk p.1 b d g
  rw[I]at z
  cases z
  exact Zjb f t hl f2 E f3 f4 f5 (J _ _ v f1 O).2)
 exact⟨m,_,Q,N,q,j.ext G,(hex.trans (F.mono (by omega))).trans (G.mono (by omega))⟩
def Fq(k k':Ad)(g a:Nat):AV→AV
 |.ref q h off c=>match Nat.beq q.1 k.1&&Nat.beq q.2 k.2&&Nat.beq h g with|true=>.ref k' a off c|false=>.ref q h off c
 |.mp q h=>match Nat.beq q.1 k.1&&Nat.beq q.2 k.2&&Nat.beq h g with|true=>.mp k' a|false=>.mp q h
 |x=>x
theorem mu{k k' q:Ad}{g a h:Nat}:Fq k k' g a (.mp q h)=if q=k∧h=g then .mp k' a else .mp q h:=by
 obtain⟨i,j⟩:=q
 obtain⟨e,f⟩:=k
 simp only[Fq]
 split
 ·rename_i he
  simp only[Yc]at he
  have a1:=Yb he.1.1
  have d:=Yb he.1.2
  have a3:=Yb he.2
  grind
 ·rename_i he
  rw[Yj]
  rintro⟨b,c⟩
  cases b
  simp[c]at he
theorem iw{k k' q:Ad}{g a h off c:Nat}:Fq k k' g a (.ref q h off c)=if q=k∧h=g then .ref k' a off c else .ref q h off c:=by
 obtain⟨j,l⟩:=q
 obtain⟨f,i⟩:=k
 simp only[Fq]
 split
 ·rename_i he
  simp only[Yc]at he
  have a1:=Yb he.1.1
  have e:=Yb he.1.2
  have a3:=Yb he.2
  grind
 ·rename_i he
  rw[Yj]
  rintro⟨b,d⟩
  cases b
  simp[d]at he
theorem R.handout{act:Act}(h:R l n B ⟨s,H⟩ act w){k k':Ad}(hk:k.1=l+1)(hk':k'.1≤l)(hl:(H k).live=true)(O:Ge (H k).cells){s':Nat→AV}
  (hs:∀j,s' j=s j∨(∃off c,s j=.ref k (H k).g off c∧s' j=.ref k' ((H k').g+1) off c)∨(s j=.mp k (H k).g∧s' j=.mp k' ((H k').g+1))):R l n B ⟨s',updH (updH H k {H k with live:=false }) k' {H k with g:=(H k').g+1 }⟩ act w:=by
 obtain⟨m,S,r,hn,Z,hS,hex⟩:=h.un
 have hne:k≠k':=by rintro rfl;omega
 let J:=updH (updH H k {H k with live:=false }) k' {H k with g:=(H k').g+1 }
 let N:=Bb m k' (m k)
 have K:J k'={H k with g:=(H k').g+1 }:=AO _ _ _
 have e2:J k={H k with live:=false }:=by show updH _ _ _ _=_;rw[AJ _ _ hne,AO]
 have M:∀q,q≠k→q≠k'→J q=H q:=fun q p b=>by show updH _ _ _ _=_;rw[AJ _ _ b,AJ _ _ p]
 have f1:N k'=m k:=A3 _ _ _
 have f2:∀q,q≠k'→N q=m q:=fun q h=>A1 _ _ h
 have F:Ext (l+1) H m S w J N S w:=by
  refine⟨fun _ h=>h,fun _ _=>rfl,fun q f=>?_,fun q f hg a=>?_,rfl,rfl,rfl,Yf _⟩
  ·by_cases p:q=k'
   ·grind
   ·by_cases b:q=k
    ·grind
    grind
  ·by_cases p:q=k'
   ·grind
   ·by_cases b:q=k
    ·grind
    grind
 have src:∀q:Ad,(J q).live=true→(q=k'∧True)∨(q≠k∧q≠k'∧(H q).live=true):=fun q f=>by
  by_cases p:q=k'
  ·grind
  ·by_cases b:q=k
   ·grind
   grind
 have X:Ok (l+1) J N S w:=by
  refine⟨r.sub,fun q f a o=>?_,fun q f a o=>?_,fun q A f I a G o z heq=>?_,fun q f a o=>?_,⟨fun q f a=>?_,fun q f a he=>?_,fun q A f I a G he y heq=>?_⟩⟩
  ·rcases src q a with⟨rfl,_⟩|⟨p,b,u⟩
   ·rw[f1]at o;rw[K];exact r.empty k (by omega) hl o
   ·rw[f2 q b]at o;rw[M q p b];exact r.empty q f u o
  ·rcases src q a with⟨rfl,_⟩|⟨p,b,u⟩
   ·rw[f1]at o⊢;exact r.fresh k (by omega) hl o
   ·rw[f2 q b]at o⊢;exact r.fresh q f u o
  ·rcases src q a with⟨rfl,_⟩|⟨p,b,u⟩<;>rcases src A G with⟨rfl,_⟩|⟨D,t,E⟩
   ·rfl
   ·rw[f1]at o heq;rw[f2 A t]at z heq
    exact absurd (r.inj k A (by omega) I hl E o z heq) (Ne.symm D)
   ·rw[f1]at z heq;rw[f2 q b]at o heq
    exact absurd (r.inj q k f (by omega) u hl o z heq) p
   ·rw[f2 q b]at o heq;rw[f2 A t]at z heq
    exact r.inj q A f I u E o z heq
  ·rcases src q a with⟨rfl,_⟩|⟨p,b,u⟩
   ·rw[f1]at o
    obtain⟨C,U,V,W,P⟩:=r.blk k (by omega) hl o
    rw[K,f1]
    refine⟨C,U,V,W,fun i x v hi T=>⟨(P i x v hi T).1,?_⟩⟩
    have L:=(P i x v hi T).2
    have hf:=O x (Yk hi)
    cases x with
    |d x=>cases L with|d _ _ Y=>exact .d _ _ Y
    |_=>cases hf
   ·rw[f2 q b]at o
    obtain⟨C,U,V,W,P⟩:=r.blk q f u o
    rw[M q p b,f2 q b]
    exact⟨C,U,V,W,fun i x v hi T=>⟨(P i x v hi T).1,(P i x v hi T).2.ext F f⟩⟩
  ·rcases src q a with⟨rfl,_⟩|⟨p,b,u⟩
   ·rw[f1,K];exact r.mp.o k (by omega) hl
   ·rw[f2 q b,M q p b];exact r.mp.o q f u
  ·rcases src q a with⟨rfl,_⟩|⟨p,b,u⟩
   ·rw[f1];rw[K]at he;exact r.mp.c k (by omega) hl he
   ·rw[f2 q b];rw[M q p b]at he;exact r.mp.c q f u he
  ·rcases src q a with⟨rfl,_⟩|⟨p,b,u⟩<;>rcases src A G with⟨rfl,_⟩|⟨D,t,E⟩
   ·rfl
   ·rw[f1,f2 A t]at heq;rw[K]at he;rw[M A D t]at y
    exact absurd (r.mp.i k A (by omega) I hl E he y heq) (Ne.symm D)
   ·rw[f1,f2 q b]at heq;rw[K]at y;rw[M q p b]at he
    exact absurd (r.mp.i q k f (by omega) u hl he y heq) p
   ·rw[f2 q b,f2 A t]at heq;rw[M q p b]at he;rw[M A D t]at y
    exact r.mp.i q A f I u E he y heq
 refine⟨N,S,X,hn,Z,fun i=>?_,hex.trans (F.mono (by omega))⟩
 show RepA w S J N (l+1) (s' i) _
 have L:=hS i
 generalize act.tmps.getD i Go.undef=v at L⊢
 rcases hs i with e|⟨off,c,e,e'⟩|⟨e,e'⟩
 ·rw[e];exact L.ext F (Yf _)
 rotate_left
 ·rw[e']
  rw[e]at L
  obtain⟨_,rfl⟩:=O0 L rfl hl
  have:=RepA.mpL (w:=w) (S:=S) (H:=J) (m:=N) (l:=l+1) k' (by omega) (by rw[K];exact hl)
  grind
 ·rw[e']
  rw[e]at L
  generalize hg:(H k).g=g at L
  cases L with
  |refD _ _ _ _ _ f hg' Y p=>rw[Y hg.symm]at hl;cases hl
  |refL _ _ _ oa f a Q ha=>
   have:=RepA.refL (w:=w) (S:=S) (H:=J) (m:=N) (l:=l+1) k' off c oa (by omega) (by rw[K];exact hl) (by rw[f1];exact Q) (fun h=>by rw[f1]at h⊢;rw[K];exact ha h)
   grind
theorem Ok.rekey(j:Ok (l+1) H m S w){k k':Ad}(V:k.1≤l+1)(R:k'.1≤l+1)(O:k≠k')(hl:(H k).live=true)(D:Ge (H k).cells):
  Ok (l+1) (updH (updH H k {H k with live:=false }) k' {H k with g:=(H k').g+1 }) (Bb m k' (m k)) S w∧Ext (l+1) H m S w (updH (updH H k {H k with live:=false }) k' {H k with g:=(H k').g+1 }) (Bb m k' (m k)) S w:=by
 let E:=updH (updH H k {H k with live:=false }) k' {H k with g:=(H k').g+1 }
 let J:=Bb m k' (m k)
 have F:E k'={H k with g:=(H k').g+1 }:=AO _ _ _
 have U:E k={H k with live:=false }:=by show updH _ _ _ _=_;rw[AJ _ _ O,AO]
 have A:∀q,q≠k→q≠k'→E q=H q:=fun q e b=>by show updH _ _ _ _=_;rw[AJ _ _ b,AJ _ _ e]
 have f1:J k'=m k:=A3 _ _ _
 have f2:∀q,q≠k'→J q=m q:=fun q h=>A1 _ _ h
 have B:Ext (l+1) H m S w E J S w:=by
  refine⟨fun _ h=>h,fun _ _=>rfl,fun q f=>?_,fun q f hg a=>?_,rfl,rfl,rfl,Yf _⟩
  ·by_cases e:q=k'
   ·grind
   ·by_cases b:q=k
    ·grind
    grind
  ·by_cases e:q=k'
   ·grind
   ·by_cases b:q=k
    ·grind
    grind
 have src:∀q:Ad,(E q).live=true→(q=k'∧True)∨(q≠k∧q≠k'∧(H q).live=true):=fun q f=>by
  by_cases e:q=k'
  ·grind
  ·by_cases b:q=k
   ·grind
   grind
 have N:Ok (l+1) E J S w:=by
  refine⟨j.sub,fun q f a c=>?_,fun q f a c=>?_,fun q s f z a y c r heq=>?_,fun q f a c=>?_,⟨fun q f a=>?_,fun q f a he=>?_,fun q s f z a y he p heq=>?_⟩⟩
  ·rcases src q a with⟨rfl,_⟩|⟨e,b,o⟩
   ·rw[f1]at c;rw[F];exact j.empty k (by omega) hl c
   ·rw[f2 q b]at c;rw[A q e b];exact j.empty q f o c
  ·rcases src q a with⟨rfl,_⟩|⟨e,b,o⟩
   ·rw[f1]at c⊢;exact j.fresh k (by omega) hl c
   ·rw[f2 q b]at c⊢;exact j.fresh q f o c
  ·rcases src q a with⟨rfl,_⟩|⟨e,b,o⟩<;>rcases src s y with⟨rfl,_⟩|⟨t,n,u⟩
   ·rfl
   ·rw[f1]at c heq;rw[f2 s n]at r heq
    exact absurd (j.inj k s (by omega) z hl u c r heq) (Ne.symm t)
   ·rw[f1]at r heq;rw[f2 q b]at c heq
    exact absurd (j.inj q k f (by omega) o hl c r heq) e
   ·rw[f2 q b]at c heq;rw[f2 s n]at r heq
    exact j.inj q s f z o u c r heq
  ·rcases src q a with⟨rfl,_⟩|⟨e,b,o⟩
   ·rw[f1]at c
    obtain⟨C,K,L,M,G⟩:=j.blk k (by omega) hl c
    rw[F,f1]
    refine⟨C,K,L,M,fun i x v hi I=>⟨(G i x v hi I).1,?_⟩⟩
    have T:=(G i x v hi I).2
    have Q:=D x (Yk hi)
    cases x with
    |d x=>cases T with|d _ _ P=>exact .d _ _ P
    |_=>cases Q
   ·rw[f2 q b]at c
    obtain⟨C,K,L,M,G⟩:=j.blk q f o c
    rw[A q e b,f2 q b]
    exact⟨C,K,L,M,fun i x v hi I=>⟨(G i x v hi I).1,(G i x v hi I).2.ext B f⟩⟩
  ·rcases src q a with⟨rfl,_⟩|⟨e,b,o⟩
   ·rw[f1,F];exact j.mp.o k (by omega) hl
   ·rw[f2 q b,A q e b];exact j.mp.o q f o
  ·rcases src q a with⟨rfl,_⟩|⟨e,b,o⟩
   ·rw[f1];rw[F]at he;exact j.mp.c k (by omega) hl he
   ·rw[f2 q b];rw[A q e b]at he;exact j.mp.c q f o he
  ·rcases src q a with⟨rfl,_⟩|⟨e,b,o⟩<;>rcases src s y with⟨rfl,_⟩|⟨t,n,u⟩
   ·rfl
   ·rw[f1,f2 s n]at heq;rw[F]at he;rw[A s t n]at p
    exact absurd (j.mp.i k s (by omega) z hl u he p heq) (Ne.symm t)
   ·rw[f1,f2 q b]at heq;rw[F]at p;rw[A q e b]at he
    exact absurd (j.mp.i q k f (by omega) o hl he p heq) e
   ·rw[f2 q b,f2 s n]at heq;rw[A q e b]at he;rw[A s t n]at p
    exact j.mp.i q s f z o u he p heq
 exact⟨N,B⟩
theorem R.rename{act:Act}(h:R l n B ⟨s,H⟩ act w){k k' q:Ad}(hk:k.1=l+1)(T:k'.1≤l+1)(F:q.1=l+1)(E:k≠k')(G:q≠k)(p:q≠k')(hl:(H k).live=true)(d:(H q).live=true)(t:Ge (H k).cells)
  {i off c:Nat} (A:(H q).cells[i]?=some (.ref k (H k).g off c)) {s':Nat→AV}
  (hs:∀j,s' j=s j∨(∃off c,s j=.ref k (H k).g off c∧s' j=.ref k' ((H k').g+1) off c)∨(s j=.mp k (H k).g∧s' j=.mp k' ((H k').g+1))):
  R l n B ⟨s',updH (updH (updH H k {H k with live:=false }) k' {H k with g:=(H k').g+1 }) q ⟨(H q).g,true,(H q).e,(H q).sz,(H q).cells.set i (.ref k' ((H k').g+1) off c)⟩⟩ act w:=by
 obtain⟨m,S,y,V,D,N,hex⟩:=h.un
 obtain⟨z,o⟩:=y.rekey (by omega) (by omega) E hl t
 have u:(updH (updH H k {H k with live:=false }) k' {H k with g:=(H k').g+1 }) k'={H k with g:=(H k').g+1 }:=AO _ _ _
 have x:(updH (updH H k {H k with live:=false }) k' {H k with g:=(H k').g+1 }) q=H q:=by rw[AJ _ _ p,AJ _ _ G]
 have f1:Bb m k' (m k) k'=m k:=A3 _ _ _
 have f2:Bb m k' (m k) q=m q:=A1 _ _ p
 have ref:∀{L off c v},L≤l+1→RepA w S H m L (.ref k (H k).g off c) v→RepA w S (updH (updH H k {H k with live:=false }) k' {H k with g:=(H k').g+1 }) (Bb m k' (m k)) (l+1) (.ref k' ((H k').g+1) off c) v:=fun {L off c v} hL f=>by
  generalize hg:(H k).g=g at f
  cases f with
  |refD _ _ _ _ _ F Q P h1=>rw[P hg.symm]at hl;cases hl
  |refL _ _ _ W F U b O=>
   have:=RepA.refL (w:=w) (S:=S) (H:=updH (updH H k {H k with live:=false }) k' {H k with g:=(H k').g+1 }) (m:=Bb m k' (m k)) (l:=l+1) k' off c W (by omega) (by rw[u];exact hl) (by rw[f1];exact b) (fun h=>by rw[f1]at h⊢;rw[u];exact O h)
   grind
 obtain⟨r,a⟩:=z.cell q (by omega) (by rw[x];exact d) i (.ref k' ((H k').g+1) off c) (fun C I v J _=>by
  have b:(m q).cap≠0:=fun e=>by
   have:=y.empty q (by omega) d e
   rw[this]at A;simp at A
  obtain⟨X,K,Y,Z,M⟩:=y.blk q (by omega) d b
  rw[f2,x,K]at I
  cases I
  rw[f2]at J
  have:=ref (by omega) (M i _ v A J).2
  rw[F];exact this)
 rw[x]at r a
 rw[d]at r a
 refine⟨Bb m k' (m k),S,r,V,D,fun i=>?_,(hex.trans (o.mono (by omega))).trans (a.mono (by omega))⟩
 show RepA w S _ _ (l+1) (s' i) _
 have f:=N i
 generalize act.tmps.getD i Go.undef=v at f⊢
 rcases hs i with e|⟨off,c,e,e'⟩|⟨e,e'⟩
 ·rw[e];exact(f.ext o (Yf _)).ext a (Yf _)
 ·rw[e'];rw[e]at f
  exact(ref (Yf _) f).ext a (Yf _)
 ·rw[e'];rw[e]at f
  obtain⟨_,rfl⟩:=O0 f rfl hl
  have:=RepA.mpL (w:=w) (S:=S) (H:=updH (updH H k {H k with live:=false }) k' {H k with g:=(H k').g+1 }) (m:=Bb m k' (m k)) (l:=l+1) k' (by omega) (by rw[u];exact hl)
  rw[f1,u]at this
  exact this.ext a (Yf _)
theorem R.trim{d:Act}(h:R l n B ⟨s,H⟩ d w){k:Ad}(o:k.1≤l+1)(hl:(H k).live=true)(c:Nat):R l n B ⟨s,updH H k ⟨(H k).g,(H k).live,(H k).e,(H k).sz,(H k).cells.take c⟩⟩ d w:=by
 obtain⟨m,S,f,u,i,t,hex⟩:=h.un
 have key:Ok (l+1) (updH H k ⟨(H k).g,(H k).live,(H k).e,(H k).sz,(H k).cells.take c⟩) m S w∧Ext (l+1) H m S w (updH H k ⟨(H k).g,(H k).live,(H k).e,(H k).sz,(H k).cells.take c⟩) m S w:=by
  by_cases a:(m k).cap=0
  ·have p:=f.empty k o hl a
   have e:(⟨(H k).g,(H k).live,(H k).e,(H k).sz,(H k).cells.take c⟩:Blk)=H k:=by rw[p];simp;rw[←p]
   rw[e,Uk H k _ rfl]
   exact⟨f,Ext.refl _ _ _ _ _⟩
  ·obtain⟨C,z,q,A,r⟩:=f.blk k o hl a
   exact f.write k o hl a ((H k).cells.take c) C q (by rw[Yy];omega) w (fun b=>by split<;>simp_all) rfl rfl rfl rfl (fun j y v g x=>by
    rw[YR]at g
    split at g
    ·exact r j y v g x
    ·cases g)
 exact⟨m,S,key.1,u,i,t.ext key.2,hex.trans (key.2.mono (by omega))⟩
theorem R.rebase{act:Act}(h:R l n B ⟨s,H⟩ act w){k:Ad}(b:k.1≤l+1)(hl:(H k).live=true){j off c:Nat}(P:s j=.ref k (H k).g off c)(G:off*(H k).sz≤(H k).cells.length):
  R l n B ⟨upd s j (.ref k ((H k).g+1) 0 c),updH H k ⟨(H k).g+1,true,.t (H k).e.ty,(H k).sz,(H k).cells.drop (off*(H k).sz)⟩⟩ act w:=by
 obtain⟨m,S,d,T,r,E,hex⟩:=h.un
 have o:=E j
 rw[P]at o
 generalize X:act.tmps.getD j Go.undef=v at o
 generalize hg:(H k).g=g at o
 cases o with
 |refD _ _ _ _ _ V O q Z=>rw[q hg.symm]at hl;cases hl
 |refL _ _ _ Y V Q F N=>
  have fin:∀(M:MB),M.cap=(m k).cap-off→(M.cap≠0→M.b=(m k).b∧M.o=(m k).o+off*(H k).sz)→(Ok (l+1) (updH H k ⟨(H k).g+1,true,.t (H k).e.ty,(H k).sz,(H k).cells.drop (off*(H k).sz)⟩) (Bb m k M) S w∧Ext (l+1) H m S w (updH H k ⟨(H k).g+1,true,.t (H k).e.ty,(H k).sz,(H k).cells.drop (off*(H k).sz)⟩) (Bb m k M) S w)→
    R l n B ⟨upd s j (.ref k ((H k).g+1) 0 c),updH H k ⟨(H k).g+1,true,.t (H k).e.ty,(H k).sz,(H k).cells.drop (off*(H k).sz)⟩⟩ act w:=fun M D p a=>by
   refine⟨_,S,a.1,T,r,fun i=>?_,hex.trans (a.2.mono (by omega))⟩
   show RepA w S _ _ (l+1) (upd s j (.ref k ((H k).g+1) 0 c) i) _
   by_cases hi:i=j
   ·subst hi
    rw[X]
    have:=RepA.refL (w:=w) (S:=S) (H:=updH H k ⟨(H k).g+1,true,.t (H k).e.ty,(H k).sz,(H k).cells.drop (off*(H k).sz)⟩) (m:=Bb m k M) (l:=l+1) k 0 c Y b (by rw[AO]) (by rw[A3,D];omega) (fun U=>by
     rw[A3]at U⊢
     rw[AO]
     obtain⟨K,L⟩:=p (by omega)
     rw[N (by omega),K,L];simp)
    rw[AO,A3,D]at this
    simpa[upd]using this
   ·simp only[upd,Yj hi]
    exact(E i).ext a.2 (Yf _)
  by_cases J:(m k).cap-off=0
  ·have q:(H k).cells.drop (off*(H k).sz)=[]:=by
    refine List.drop_of_length_le ?_
    by_cases f:(m k).cap=0
    ·rw[d.empty k b hl f];simp
    ·obtain⟨C,t,y,z,A⟩:=d.blk k b hl f
     rw[show off=(m k).cap from by omega];exact z
   refine fin ⟨0,0,0⟩ (by rw[J]) (fun e=>absurd rfl e) ?_
   rw[q]
   exact d.overEmpty k b ((H k).g+1) (H k).e.ty (H k).sz (DX _) ⟨0,0,0⟩ rfl
  ·obtain⟨C,t,y,z,A⟩:=d.blk k b hl (by omega)
   have I:off*(H k).sz+((m k).cap-off)*(H k).sz=(m k).cap*(H k).sz:=by rw[←YT];congr 1;omega
   refine fin ⟨(m k).b,(m k).o+off*(H k).sz,(m k).cap-off⟩ rfl (fun _=>⟨rfl,rfl⟩) ?_
   refine d.over k b ⟨(H k).g+1,true,.t (H k).e.ty,(H k).sz,(H k).cells.drop (off*(H k).sz)⟩ ⟨(m k).b,(m k).o+off*(H k).sz,(m k).cap-off⟩ (DX _) rfl J C w (fun i=>?_) (.inr ⟨rfl,hl,by omega⟩)
    (by rw[y];simp only;omega) (by simp only[YP];omega) (fun i x u hi W=>?_) (Yf _) rfl rfl rfl
   ·split
    ·rename_i e;rw[e,t];rfl
    ·rfl
   ·rw[YO]at hi
    exact A _ x u hi (by rw[←YE];exact W)
theorem R.adoptC{b:Act}{e:TypeId}{sz i:Nat}(h:R l n B ⟨s,H⟩ b w){k kp:Ad}(L:k.1=l+1)(A:kp.1=l+1)(d:kp≠k)(a:(H kp).live=true)(j:(H kp).cells[i]?=some .e0):
  R l n B ⟨s,updH (updH H k ⟨(H k).g+1,true,e,sz,[]⟩) kp ⟨(H kp).g,(H kp).live,(H kp).e,(H kp).sz,(H kp).cells.set i (.ref k ((H k).g+1) 0 0)⟩⟩ b w:=by
 obtain⟨m,S,g,D,o,z,hex⟩:=h.un
 obtain⟨F,t⟩:=g.overEmpty k (by omega) ((H k).g+1) e sz (DX _) ⟨0,0,0⟩ rfl
 have p:updH H k ⟨(H k).g+1,true,e,sz,[]⟩ kp=H kp:=AJ _ _ d
 have hm:Bb m k ⟨0,0,0⟩ kp=m kp:=A1 _ _ d
 obtain⟨u,q⟩:=F.cell kp (by omega) (by rw[p];exact a) i (.ref k ((H k).g+1) 0 0) (fun C f v r _=>by
  rw[hm]at f r
  rw[p]at f
  have c:(m kp).cap≠0:=fun e=>by
   have:=g.empty kp (by omega) a e
   rw[this]at j
   simp at j
  obtain⟨I,x,J,K,y⟩:=g.blk kp (by omega) a c
  rw[x]at f
  cases f
  have E:=(y _ _ v j r).2
  cases E with
  |e0 G=>
   have:=RepA.refL (w:=w) (S:=S) (H:=updH H k ⟨(H k).g+1,true,e,sz,[]⟩) (m:=Bb m k ⟨0,0,0⟩) (l:=kp.1) k 0 0 G (by omega) (by rw[AO]) (by rw[A3];simp) (fun h=>by rw[A3]at h;simp at h)
   rw[AO,A3]at this
   exact this)
 rw[p]at u q
 exact⟨_,S,u,D,o,(z.ext t).ext q,(hex.trans (t.mono (by omega))).trans (q.mono (by omega))⟩
theorem Ok.killO{L:Nat}(h:Ok L H m S w)(k:Ad)(D:k.1≤L)(hl:(H k).live=true)(B:(H k).e.isO=true):
  Ok L (updH H k {H k with live:=false }) m (fun b=>S b∨b=(m k).b) w∧Ext L H m S w (updH H k {H k with live:=false }) m (fun b=>S b∨b=(m k).b) w:=by
 obtain⟨J,G,I⟩:=(h.mp.o k D hl).at B
 have n:Ext L H m S w (updH H k {H k with live:=false }) m (fun b=>S b∨b=(m k).b) w:=by
  refine⟨fun _ h=>.inl h,fun _ _=>rfl,fun q c=>?_,fun q c hg a=>?_,rfl,rfl,rfl,Yf _⟩
  ·by_cases e:q=k
   ·subst e;rw[AO];exact Yf _
   ·rw[AJ _ _ e];exact Yf _
  ·by_cases e:q=k
   ·subst e;rw[AO]at a;cases a
   ·rw[AJ _ _ e]at a⊢;exact⟨a,rfl,rfl⟩
 have d:∀q:Ad,(updH H k {H k with live:=false } q).live=true→q≠k∧(H q).live=true∧updH H k {H k with live:=false } q=H q:=fun q c=>by
  by_cases e:q=k
  ·subst e;rw[AO]at c;cases c
  ·rw[AJ _ _ e]at c;exact⟨e,c,AJ _ _ e⟩
 refine⟨⟨fun b l=>?_,fun q c a o=>?_,fun q c a o=>?_,fun q u c r a j o z heq=>?_,fun q c a o=>?_,
  ⟨fun q c a=>?_,fun q c a he=>?_,fun q u c r a j he t heq=>?_⟩⟩,n⟩
 ·rcases l with l|rfl
  ·exact h.sub b l
  grind
 ·obtain⟨e,f,g⟩:=d q a
  rw[g];exact h.empty q c f o
 ·obtain⟨e,f,g⟩:=d q a
  rintro(hs|l)
  ·exact h.fresh q c f o hs
  ·obtain⟨C,A,_⟩:=h.blk q c f o
   rw[l,G]at A;cases A;cases I
 ·obtain⟨e,f,g⟩:=d q a
  obtain⟨e',p,s⟩:=d u j
  exact h.inj q u c r f p o z heq
 ·obtain⟨e,f,g⟩:=d q a
  rw[g]
  obtain⟨C,l,hs,y,F⟩:=h.blk q c f o
  exact⟨C,l,hs,y,fun i x v hi E=>⟨(F i x v hi E).1,(F i x v hi E).2.ext n c⟩⟩
 ·obtain⟨e,f,g⟩:=d q a
  rw[g]
  exact(h.mp.o q c f).mono (fun _ h=>.inl h) (fun _ _=>rfl) (fun _=>rfl)
 ·obtain⟨e,f,g⟩:=d q a
  rw[g]at he
  refine⟨(h.mp.c q c f he).1,?_⟩
  rintro(hs|l)
  ·exact(h.mp.c q c f he).2 hs
  ·exact e (h.mp.i q k c D f hl he B l)
 ·obtain⟨e,f,g⟩:=d q a
  obtain⟨e',p,s⟩:=d u j
  rw[g]at he;rw[s]at t
  exact h.mp.i q u c r f p he t heq
def EP(x:AV):List Nat→(Nat→AV)→Nat→AV
 |[],s=>s
 |j::r,s=>EP x r (upd s j x)
theorem O3(x:AV):∀(c:List Nat) (s:Nat→AV) (i:Nat),EP x c s i=if i∈c then x else s i
 |[],s,i=>by simp[EP]
 |j::r,s,i=>by
  rw[EP,O3 x r]
  by_cases b:i∈r
  ·grind
  ·rw[Yj b]
   by_cases a:i=j
   ·subst a;simp[upd]
   ·rw[Yj (by simp[b,a])];simp[upd,a]
theorem R.freezeM{a:Act}(h:R l n B ⟨s,H⟩ a w){k:Ad}{q:Bool}{es:List (List D)}(p:k.1≤l+1)(hl:(H k).live=true)(he:(H k).e=.m q es)(b:List Nat)(f:∀j∈b,s j=.mp k (H k).g):
  R l n B ⟨EP (.d (.map q es)) b s,updH H k {H k with live:=false }⟩ a w:=by
 obtain⟨m,S,g,z,e,o,hex⟩:=h.un
 have d:(H k).e.isO=true:=by rw[he];rfl
 obtain⟨A,u⟩:=g.killO k p hl d
 refine⟨m,_,A,z,e,fun i=>?_,hex.trans (u.mono (by omega))⟩
 show RepA w _ _ m (l+1) (EP (.d (.map q es)) b s i) _
 rw[O3]
 by_cases hi:i∈b
 ·rw[Yg hi]
  have t:=o i
  rw[show s i=.mp k (H k).g from f i hi]at t
  obtain⟨_,v⟩:=O0 t rfl hl
  rw[v]
  have r:=g.mp.o k p hl
  rw[he]at r
  obtain⟨ents,c,x,y⟩:=r
  exact .d _ _ (.ofM (.inr rfl) x (y.mono (fun _ h=>.inl h) (fun _ _=>rfl)))
 ·rw[Yj hi];exact(o i).ext u (Yf _)
theorem R.freezeB{act:Act}(h:R l n B ⟨s,H⟩ act w){k:Ad}{ds:List D}(o:k.1≤l+1)(hl:(H k).live=true)(t:(H k).cells=ds.map .d)(E:ds≠[])(q:List Nat)(z:∀j∈q,s j=.ptr k (H k).g 0):
  R l n B ⟨EP (.iptr ds 0) q s,updH H k {H k with live:=false }⟩ act w:=by
 obtain⟨m,S,r,M,y,I,hex⟩:=h.un
 obtain⟨N,F⟩:=r.kill k o hl
 have a:(m k).cap≠0:=fun e=>by
  have:=r.empty k o hl e
  rw[t]at this
  exact E (Xy.1 this)
 obtain⟨C,K,O,G,L⟩:=r.blk k o hl a
 refine⟨m,_,N,M,y,fun i=>?_,hex.trans (F.mono (by omega))⟩
 show RepA w _ _ m (l+1) (EP (.iptr ds 0) q s i) _
 rw[O3]
 by_cases hi:i∈q
 ·rw[Yg hi]
  have p:=I i
  rw[show s i=.ptr k (H k).g 0 from z i hi]at p
  generalize act.tmps.getD i Go.undef=v at p
  generalize hg:(H k).g=g at p
  cases p with
  |ptrD _ _ _ _ _ _ u _=>rw[u hg.symm]at hl;cases hl
  |ptrL _ _ _ _=>
   have J:ds.length≤(m k).cap*(H k).sz:=by rw[t,YC]at G;exact G
   have:=RepA.iptr (w:=w) (S:=fun b=>S b∨(b=(m k).b∧(m k).cap≠0)) (H:=updH H k {H k with live:=false }) (m:=m) (l:=l+1) ds 0 ⟨(m k).b,(m k).o,none⟩ (fun j=>(C[(m k).o+j]?).getD Go.undef) (.inr ⟨rfl,a⟩)
    (fun j x f=>by
     have A:j<ds.length:=(Yd.1 f).1
     rw[Addr.add_lit,GG K,Yp (by omega)];rfl)
    (fun j x f=>by
     have A:j<ds.length:=(Yd.1 f).1
     have c:C[(m k).o+j]?=some (C[(m k).o+j]'(by omega)):=Yp (by omega)
     obtain⟨_,g2⟩:=L j (.d x) _ (by rw[t,YL,f];rfl) c
     rw[c]
     cases g2.ext F o with|d _ _ u=>exact u)
   exact this
 ·rw[Yj hi];exact(I i).ext F (Yf _)
end
end Go.Eng
