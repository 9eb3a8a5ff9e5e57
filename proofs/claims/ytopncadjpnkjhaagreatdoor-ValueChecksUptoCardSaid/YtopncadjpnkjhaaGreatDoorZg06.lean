import Derived.Test.YtopncadjpnkjhaaGreatDoorZg05
import Derived.Test.YtopncadjpnkjhaaGreatDoorZg00
namespace Go.Eng
set_option linter.all false
open Go Go.RowKit
def Eu(cs:List AV):Prop:=∀x∈cs,(match x with|.d _=>true|_=>false)=true
section
variable {P:Program} {l n:Nat} {B:Base} {H H':Hp} {m m':Mu} {S S':Nat→Prop} {w w':World} {s:Nat→AV} {a:Act} {K:St→Prop} {o:Oper}
theorem Ok.lay(r:Ok (l+1) H m S w){k:Ab}(s:k.1≤l+1)(hl:(H k).live=true){off:Nat}{vs:List AV}{cs:Array Value}(p:Cj w S H m (l+1) vs cs)(A:0<vs.length)
  (n:off+vs.length≤(H k).cells.length) (j:k.1=l+1∨vs.all (AV.low k.1)=true):
  (m k).cap≠0∧∃C:Array Value,w.heap[(m k).b]?=some (.cells C (H k).e.ty (0,0))∧(m k).o+off+cs.toList.length≤C.size∧(∀v∈cs.toList,v.oneCell'=true)∧
   Ok (l+1) (updH H k {H k with cells:=(H k).cells.take off++vs++(H k).cells.drop (off+vs.length) }) m S (w.setRow (m k).b (C.toList.take ((m k).o+off)++cs.toList++C.toList.drop ((m k).o+off+cs.toList.length)).toArray)∧
   Ext (l+1) H m S w (updH H k {H k with cells:=(H k).cells.take off++vs++(H k).cells.drop (off+vs.length) }) m S (w.setRow (m k).b (C.toList.take ((m k).o+off)++cs.toList++C.toList.drop ((m k).o+off+cs.toList.length)).toArray):=by
 have f:(m k).cap≠0:=fun e=>by have:=r.empty k s hl e;rw[this,G6]at n;omega
 obtain⟨C,x,G,I,z⟩:=r.blk k s hl f
 have d:cs.toList.length=vs.length:=by simp[p.1]
 have o:∀v∈cs.toList,v.oneCell'=true:=by
  intro v c
  obtain⟨i,hi⟩:=Y2.1 c
  rw[Yx]at hi
  have u:i<vs.length:=by
   rw[p.1]
   rcases Yz i cs.size with h|h
   ·exact h
   ·rw[Y3 h]at hi;cases hi
  exact(p.2 i _ v (Ye u) hi).1
 have t:(m k).o+off+cs.toList.length≤C.size:=by rw[d];omega
 have B:=r.write k s hl f ((H k).cells.take off++vs++(H k).cells.drop (off+vs.length))
   (C.toList.take ((m k).o+off)++cs.toList++C.toList.drop ((m k).o+off+cs.toList.length)).toArray
   (by simp[d];omega) (by simp;omega)
   (w.setRow (m k).b (C.toList.take ((m k).o+off)++cs.toList++C.toList.drop ((m k).o+off+cs.toList.length)).toArray)
   (fun b=>by
    by_cases e:b=(m k).b
    ·subst e;rw[Yi rfl];exact setRow_heap w _ C _ _ _ x
    ·rw[Yj e];exact setRow_other w _ _ _ e)
   (by simp) rfl rfl rfl (fun i y v hi c=>by
    have c:(C.toList.take ((m k).o+off)++cs.toList++C.toList.drop ((m k).o+off+cs.toList.length))[(m k).o+i]?=some v:=by simpa using c
    rw[d]at c
    have q:C.toList.length=C.size:=by simp
    have g:(C.toList.take ((m k).o+off)).length=(m k).o+off:=by rw[YO,q];omega
    have a:((H k).cells.take off).length=off:=by rw[YO];omega
    rcases Yz i off with h|h
    ·rw[Ek,Yo (by rw[a];omega),YY,Yi h]at hi
     rw[Ek,Yo (by rw[g];omega),YY,Yi (by omega),Yx]at c
     exact z i y v hi c
    ·rcases Yz i (off+vs.length)with E|E
     ·rw[Yo (by rw[Yw,a];omega),Yy (by rw[a];omega),a]at hi
      rw[Yo (by rw[Yw,g,d];omega),Yy (by rw[g];omega),g,Yx]at c
      rw[show(m k).o+i-((m k).o+off)=i-off from by omega]at c
      obtain⟨F,D⟩:=p.2 _ y v hi c
      refine⟨F,?_⟩
      rcases j with e|e
      ·rw[e];exact D
      ·exact D.low (Yk.1 e y (Yn hi))
     ·rw[Yy (by rw[Yw,a];omega),YP,Yw,a]at hi
      rw[Yy (by rw[Yw,g,d];omega),YP,Yx,Yw,g,d]at c
      rw[show off+vs.length+(i-(off+vs.length))=i from by omega]at hi
      rw[show(m k).o+off+vs.length+((m k).o+i-((m k).o+off+vs.length))=(m k).o+i from by omega]at c
      exact z i y v hi c)
 exact⟨f,C,x,t,o,B.1,B.2⟩
theorem Zzf(C:List AV)(off:Nat):C.take off++[]++C.drop (off+([]:List AV).length)=C:=by simp
theorem P3(H:Hp)(k:Ab)(b:Blk)(h:b=H k):updH H k b=H:=by funext q;unfold updH;split<;>simp_all
theorem Ztn{x y:Operand}{t t' e:TypeId}{k:Ab}{g off cn sz cnt:Nat}{news:List AV}(ho:o.op=.call ⟨.builtin .copy,#[x,y],#[t,t']⟩)(hx:ev s x=.ref k g off cn)(he:elm P t=some (e,sz))(Z:elm P t'=some (e,sz))(hi:(zer P e).isSome=true)
  (hsz:sz≠0) (hg:g=(H k).g) (hl:(H k).live=true) (hs:(H k).sz=sz) (I:HN H sz (ev s y)=some (cnt,news)) (hle:cnt≤cn) (E:off*sz+news.length≤(H k).cells.length)
  (A:k.1=l+1∨news.all (AV.low k.1)=true) (W:B6 n o.dst K ⟨s,updH H k {H k with cells:=(H k).cells.take (off*sz)++news++(H k).cells.drop (off*sz+news.length) }⟩ (.d (.int .i64 cnt))):B2 P l n B o K ⟨s,H⟩:=by
 intro a w hR Q
 obtain⟨m,S,X,hn,r,M,u⟩:=hR.un
 obtain⟨hu,hse⟩:=D3 he
 obtain⟨hu',_⟩:=D3 Z
 obtain⟨z,hz⟩:=Y0.1 hi
 obtain⟨it,zv,j,hz0,hzr,_⟩:=Hq (w:=w) (S:=S) (H:=H) (m:=m) (l:=l+1) hz
 have f:it.size=sz:=by rw[←hse];simp[Program.cellsOf,j]
 obtain⟨C,c,q,D⟩:=l5 hu' hsz I X (CR M y)
 have hp:=CR M x
 rw[hx]at hp
 generalize hpv:a.eval x=pv at hp
 have fin:∀(w':World) (H':Hp),Ok (l+1) H' m S w'→Ext (l+1) H m S w H' m S w'→B6 n o.dst K ⟨s,H'⟩ (.d (.int .i64 cnt))→(Builtin.copy_ #[t,t'] o.type #[pv,a.eval y]).run P w=.ok (goInt cnt) w'→
   o.wp P a w (fun a' w'=>∃σ',K σ'∧R l n B σ' a' w') Q:=fun w' H' N O b G=>by
  have p:(execOp a.eval o).run P w=.ok (.value (goInt cnt)) w':=by
   simp[execOp,ho,resolve,invoke,Go.builtin,hpv,G]
  unfold B6 at b
  refine Dm p ?_
  cases hd:o.dst with
  |none=>
   rw[hd]at b
   exact⟨_,b,R.keep N hn r M u O⟩
  |some d=>
   rw[hd]at b
   exact⟨_,b.2,R.step N hn r M u O b.1 (.d _ _ (.int _ _))⟩
 cases hp with
 |refD k g off cn v b hg' Y h1=>rw[Y hg]at hl;cases hl
 |refL k off cn oa b hl' hn' ha=>
  have i:Nat.min cnt cn=cnt:=G7 hle
  rcases NY news.length with T|F
  ·have hn0:news=[]:=Y8 T
   have V:C=#[]:=NQ (by rw[←q.1,T])
   have hcnt:cnt=0:=by
    rw[T]at D
    rcases Nat.mul_eq_zero.1 D.symm with h|h
    ·exact h
    grind
   subst hn0
   rw[Zzf,P3 H k _ rfl]at W
   refine fin w H X (Ext.refl _ _ _ _ _) W ?_
   have L:=c.cells
   rw[V]at L
   have U:=c.len w
   cases oa<;>simp[Builtin.copy_,run_underlying hu,U,sizeOf,typeInfo,j,f,i,L,storeCells]
  ·obtain⟨hcap,C0,b1,b2,b3,N,O⟩:=X.lay b hl q F E A
   have hc1:0<cnt:=by
    grind
   have hoa:=ha (by omega)
   subst hoa
   refine fin _ _ N O W ?_
   have J:=run_storeCells_at (P:=P) (m k).b ((m k).o+off*sz) (H k).e.ty C.toList 0 C0 w b1 (by omega) b3
   simp only[DX]at J
   have L:=c.cells
   have U:=c.len w
   rw[hs]
   simp[Builtin.copy_,run_underlying hu,U,sizeOf,typeInfo,j,f,i,L,J]
theorem ZpO{x:Operand}{t e:TypeId}{k:Ab}{g off cn sz:Nat}{z:List AV}(ho:o.op=.call ⟨.builtin .clear,#[x],#[t]⟩)(hd:o.dst=none)(hx:ev s x=.ref k g off cn)(he:elm P t=some (e,sz))(hz:zer P e=some z)(j:z.length=sz)
  (hsz:sz≠0) (hg:g=(H k).g) (hl:(H k).live=true) (hs:(H k).sz=sz) (d:(off+cn)*sz≤(H k).cells.length) (p:k.1=l+1∨z.all (AV.low k.1)=true)
  (J:K ⟨s,updH H k {H k with cells:=(H k).cells.take (off*sz)++(List.replicate cn z).flatten++(H k).cells.drop ((off+cn)*sz) }⟩):B2 P l n B o K ⟨s,H⟩:=by
 intro a w hR Q
 obtain⟨m,S,Z,hn,M,hS,N⟩:=hR.un
 obtain⟨hu,hse⟩:=D3 he
 have C:z≠[]:=by rintro rfl;simp at j;omega
 obtain⟨it,E,O,X,D,_⟩:=Hq (w:=w) (S:=S) (H:=H) (m:=m) (l:=l+1) hz
 have U:=CR hS x
 rw[hx]at U
 generalize V:a.eval x=pv at U
 have fin:∀(w':World) (H':Hp),Ok (l+1) H' m S w'→Ext (l+1) H m S w H' m S w'→K ⟨s,H'⟩→(Builtin.clear_ #[t] o.type #[pv]).run P w=.ok (.tuple #[]) w'→
   o.wp P a w (fun a' w'=>∃σ',K σ'∧R l n B σ' a' w') Q:=fun w' H' G I F y=>by
  have i:(execOp a.eval o).run P w=.ok (.value (.tuple #[])) w':=by
   simp[execOp,ho,resolve,invoke,Go.builtin,V,y]
  refine Dm i ?_
  rw[hd]
  exact⟨_,F,R.keep G hn M hS N I⟩
 cases U with
 |refD k g off cn v F hg' L h1=>rw[L hg]at hl;cases hl
 |refL k off cn oa F hl' hn' ha=>
  rcases NY cn with h0|r
  ·subst h0
   have e1:(H k).cells.take (off*sz)++(List.replicate 0 z).flatten++(H k).cells.drop ((off+0)*sz)=(H k).cells:=by simp
   rw[e1,P3 H k _ rfl]at J
   refine fin w H Z (Ext.refl _ _ _ _ _) J ?_
   cases oa<;>simp[Builtin.clear_,run_underlying hu]
  ·obtain⟨g1,g2⟩:=oW C D cn cn (Yh _)
   have b:((List.replicate cn z).flatten).length=cn*sz:=by simp[j]
   have Y:E.cells.size=z.length:=D.1.symm
   have hr:Cj w S H m (l+1) (List.replicate cn z).flatten (Builtin.zeroCells E.cells cn):=by
    have e:Builtin.zeroCells E.cells cn=madeCells E.cells (cn*z.length):=by unfold Builtin.zeroCells madeCells;rw[Y]
    rw[e]
    exact⟨by rw[g1,b,j],g2⟩
   have f:0<cn*sz:=NW r (by omega)
   rw[YN]at d
   obtain⟨hcap,C0,b1,b2,b3,G,I⟩:=Z.lay F hl hr (by rw[b];exact f) (by rw[b];exact d) (p.imp id fun h=>by
    refine Yk.2 fun q hq=>?_
    obtain⟨z',W,u⟩:=N2.1 hq
    rw[(Sn.1 W).2]at u
    exact Yk.1 h q u)
   have T:=ha (by omega)
   subst T
   rw[b,←YN]at G I
   refine fin _ _ G I J ?_
   have A:=run_storeCells_at (P:=P) (m k).b ((m k).o+off*sz) (H k).e.ty (Builtin.zeroCells E.cells cn).toList 0 C0 w b1 (by omega) b3
   simp only[DX]at A
   rw[hs]
   obtain⟨cn',rfl⟩:∃c,cn=c+1:=⟨cn-1,by omega⟩
   simp[Builtin.clear_,run_underlying hu,zeroValue,typeInfo,O,X,A]
theorem ma{L J:Nat}{k:Ab}{off c:Nat}{es:List (List D)}(O:Ok (l+1) H m S w)(T:k.1≤l+1)(hl:(H k).live=true)(o:es.length=c)(h2:(H k).sz≠0)(q:∀e∈es,e.length=(H k).sz)
  (E:(off+c)*(H k).sz≤(H k).cells.length) (N:((H k).cells.drop (off*(H k).sz)).take (c*(H k).sz)=es.flatten.map .d) {v:Value} (I:RepA w S H m L (.ref k (H k).g off c) v):
  RepA w (fun b=>S b∨(b=(m k).b∧(m k).cap≠0)) H' m' J (.d (.list es)) v:=by
 generalize P:(H k).g=g at I
 cases I with
 |refD _ _ _ _ _ y Q s o=>rw[s P.symm]at hl;cases hl
 |refL _ _ _ V y U G F=>
  by_cases A:c=0
  ·subst A
   have:es=[]:=Y8 o
   subst this
   cases V with
   |none=>
    have e:(m k).cap-off=0:=by
     rcases Yz off (m k).cap with h|h
     ·have:=F h;cases this
     ·omega
    rw[e]
    exact .d _ _ .nil
   |some ad=>exact .d _ _ (.list [] ad 0 _ (fun _ _=>.bool true) (fun h=>absurd rfl h) (DY _) (fun _ h=>by cases h) (fun i j e x h=>by simp at h) (fun i j e x h=>by simp at h))
  ·have B:=F (by omega)
   subst B
   obtain⟨r,C,K,Y,Z,M⟩:=O.row (k:=k) T hl (by
    intro e
    rw[e,YN]at E
    have:=NW (show 0<c by omega) (show 0<(H k).sz by omega)
    simp at E
    omega)
   have f:∀(i j:Nat) (e:List D) (d:D),es[i]?=some e→e[j]?=some d→∃u,C[(m k).o+((off+i)*(H k).sz+j)]?=some u∧RepD w S d u:=by
    intro i j e d hi a
    have t:i<c:=by
     rw[←o]
     rcases Yz i es.length with h|h
     ·exact h
     ·rw[YI h]at hi;cases hi
    have R:j<(H k).sz:=by
     rw[←q e (Yn hi)]
     rcases Yz j e.length with h|h
     ·exact h
     ·rw[YI h]at a;cases a
    have n:=W6 es q i j e d hi a
    have z:i*(H k).sz+j<c*(H k).sz:=by
     have:(i+1)*(H k).sz≤c*(H k).sz:=YX _ t
     rw[YN]at this
     omega
    have p:(H k).cells[(off+i)*(H k).sz+j]?=some (.d d):=by
     have:=congrArg (fun l=>l[i*(H k).sz+j]?) N
     simp only[YY,Yi z,YP,YJ,n,YV]at this
     rw[←this,YN,YB]
    obtain⟨u,W,_,X⟩:=M _ _ p
    cases X with
    |d _ _ s=>exact⟨u,W,s⟩
   have:=RepD.list (w:=w) (S:=fun b=>S b∨(b=(m k).b∧(m k).cap≠0)) es ⟨(m k).b,(m k).o+off*(H k).sz,none⟩ (H k).sz ((m k).cap-off) (fun i j=>(C[(m k).o+((off+i)*(H k).sz+j)]?).getD undef)
    (fun _=>.inr ⟨rfl,r⟩) (by omega) q
    (fun i j e d hi a=>by
     obtain⟨v,n,_⟩:=f i j e d hi a
     rw[Addr.add_lit,Ho K]
     rw[show(m k).o+off*(H k).sz+(i*(H k).sz+j)=(m k).o+((off+i)*(H k).sz+j)from by rw[YN];omega,n]
     rfl)
    (fun i j e d hi a=>by
     obtain⟨v,n,p⟩:=f i j e d hi a
     rw[n]
     exact p.mono (fun _ h=>.inl h) (fun _ _=>rfl))
   rw[o]at this
   exact .d _ _ this
def HT:List (Nat×List (List D))→(Nat→AV)→Nat→AV
 |[],s=>s
 |(j,a)::r,s=>HT r (upd s j (.d (.list a)))
def GK:List (Ab×Nat×List (List D))→Hp→Hp
 |[],H=>H
 |(k,i,a)::r,H=>GK r (updH H k ⟨(H k).g,(H k).live,(H k).e,(H k).sz,(H k).cells.set i (.d (.list a))⟩)
theorem mi{L:Nat}:∀(c:List (Nat×List (List D))) {s:Nat→AV},Ck L s H m S a w→(∀p∈c,RepA w S H m L (.d (.list p.2)) (a.tmps.getD p.1 undef))→Ck L (HT c s) H m S a w
 |[],s,h,_=>h
 |(j,d)::r,s,h,b=>mi r (fun i=>by
   simp only[upd]
   by_cases hi:i=j
   ·subst hi;rw[Yi rfl];exact b (i,d) (YM ..)
   ·rw[Yj hi];exact h i) (fun p e=>b p (YH _ e))
theorem Ok.cell{L:Nat}(h:Ok L H m S w)(k:Ab)(g:k.1≤L)(hl:(H k).live=true)(i:Nat)(x:AV)(s:∀C:Array Value,w.heap[(m k).b]?=some (.cells C (H k).e.ty (0,0))→∀v,C[(m k).o+i]?=some v→(H k).cells[i]?≠none→RepA w S H m k.1 x v):
  Ok L (updH H k ⟨(H k).g,(H k).live,(H k).e,(H k).sz,(H k).cells.set i x⟩) m S w∧Ext L H m S w (updH H k ⟨(H k).g,(H k).live,(H k).e,(H k).sz,(H k).cells.set i x⟩) m S w:=by
 by_cases a:(m k).cap=0
 ·have o:=h.empty k g hl a
  have e:(⟨(H k).g,(H k).live,(H k).e,(H k).sz,(H k).cells.set i x⟩:Blk)=H k:=by rw[o];simp;rw[←o]
  rw[e,P3 H k _ rfl]
  exact⟨h,Ext.refl _ _ _ _ _⟩
 ·obtain⟨C,p,q,r,n⟩:=h.blk k g hl a
  have:=h.write k g hl a ((H k).cells.set i x) C q (by simpa using r) w (fun b=>by split<;>simp_all) rfl rfl rfl rfl (fun j y v c l=>by
   rw[List.getElem?_set]at c
   split at c
   ·rename_i f
    subst f
    split at c
    ·rename_i d
     simp only[Yg]at c
     subst c
     exact⟨(n i _ v (Ye d) l).1,s C p v l (by rw[Ye d];simp)⟩
    ·cases c
   ·exact n j y v c l)
  exact this
theorem oM{L:Nat}:∀(cs:List (Ab×Nat×List (List D))) {H:Hp},Ok L H m S w→(∀p∈cs,p.1.1≤L∧(H p.1).live=true∧∀C:Array Value,w.heap[(m p.1).b]?=some (.cells C (H p.1).e.ty (0,0))→∀v,C[(m p.1).o+p.2.1]?=some v→(H p.1).cells[p.2.1]?≠none→∀H' f,RepA w S H' m f (.d (.list p.2.2)) v)→
  Ok L (GK cs H) m S w∧Ext L H m S w (GK cs H) m S w
 |[],H,h,_=>⟨h,Ext.refl _ _ _ _ _⟩
 |(k,i,g)::r,H,h,a=>by
  obtain⟨x,y,z⟩:=a _ (YM ..)
  obtain⟨j,l⟩:=h.cell k x y i (.d (.list g)) (fun C q v u s=>z C q v u s _ _)
  obtain⟨n,o⟩:=oM r j (fun p t=>by
   obtain⟨b,c,d⟩:=a p (YH _ t)
   by_cases e:p.1=k
   ·rw[e]at b c d⊢
    rw[AH]
    grind
   ·rw[Av _ _ e];exact⟨b,c,d⟩)
  exact⟨n,l.trans o⟩
theorem R.freeze{a:Act}(h:R l n B ⟨s,H⟩ a w){k:Ab}(t:k.1≤l+1)(hl:(H k).live=true)(E:(H k).sz≠0)(x:List (Nat×List (List D)))(cs:List (Ab×Nat×List (List D)))
  (r:∀p∈x,∃off c,s p.1=.ref k (H k).g off c∧p.2.length=c∧(∀e∈p.2,e.length=(H k).sz)∧(off+c)*(H k).sz≤(H k).cells.length∧((H k).cells.drop (off*(H k).sz)).take (c*(H k).sz)=p.2.flatten.map .d)
  (o:∀p∈cs,p.1≠k∧p.1.1≤l+1∧(H p.1).live=true∧∃off c,(H p.1).cells[p.2.1]?=some (.ref k (H k).g off c)∧p.2.2.length=c∧(∀e∈p.2.2,e.length=(H k).sz)∧(off+c)*(H k).sz≤(H k).cells.length∧
   ((H k).cells.drop (off*(H k).sz)).take (c*(H k).sz)=p.2.2.flatten.map .d):R l n B ⟨HT x s,GK cs (updH H k {H k with live:=false })⟩ a w:=by
 obtain⟨m,S,f,N,q,y,hex⟩:=h.un
 obtain⟨P,F⟩:=f.kill k t hl
 have i:=y.ext F
 have j:=mi x i (fun p u=>by
  obtain⟨off,c,b,d,K,L,M⟩:=r p u
  have A:=y p.1
  rw[b]at A
  exact ma f t hl d E K L M A)
 obtain⟨Q,G⟩:=oM cs P (fun p u=>by
  obtain⟨e0,b,d,off,c,f1,f2,f3,f4,f5⟩:=o p u
  rw[Av _ _ e0]
  refine⟨b,d,fun C z v O _ H' U=>?_⟩
  have g:(m p.1).cap≠0:=fun e=>by
   have:=f.empty p.1 b d e
   grind
  obtain⟨T,I,V,W,J⟩:=f.blk p.1 b d g
  rw[I]at z
  cases z
  exact ma f t hl f2 E f3 f4 f5 (J _ _ v f1 O).2)
 exact⟨m,_,Q,N,q,j.ext G,(hex.trans (F.mono (by omega))).trans (G.mono (by omega))⟩
def Ed(k k':Ab)(g a:Nat):AV→AV
 |.ref q h off c=>match Nat.beq q.1 k.1&&Nat.beq q.2 k.2&&Nat.beq h g with|true=>.ref k' a off c|false=>.ref q h off c
 |.mp q h=>match Nat.beq q.1 k.1&&Nat.beq q.2 k.2&&Nat.beq h g with|true=>.mp k' a|false=>.mp q h
 |x=>x
theorem XU{k k' q:Ab}{g a h:Nat}:Ed k k' g a (.mp q h)=if q=k∧h=g then .mp k' a else .mp q h:=by
 obtain⟨i,j⟩:=q
 obtain⟨e,f⟩:=k
 simp only[Ed]
 split
 ·rename_i he
  simp only[Yb]at he
  have a1:=Ya he.1.1
  have d:=Ya he.1.2
  have a3:=Ya he.2
  grind
 ·rename_i he
  rw[Yj]
  rintro⟨b,c⟩
  cases b
  simp[c]at he
theorem WP{k k' q:Ab}{g a h off c:Nat}:Ed k k' g a (.ref q h off c)=if q=k∧h=g then .ref k' a off c else .ref q h off c:=by
 obtain⟨j,l⟩:=q
 obtain⟨f,i⟩:=k
 simp only[Ed]
 split
 ·rename_i he
  simp only[Yb]at he
  have a1:=Ya he.1.1
  have e:=Ya he.1.2
  have a3:=Ya he.2
  grind
 ·rename_i he
  rw[Yj]
  rintro⟨b,d⟩
  cases b
  simp[d]at he
theorem R.handout{act:Act}(h:R l n B ⟨s,H⟩ act w){k k':Ab}(hk:k.1=l+1)(hk':k'.1≤l)(hl:(H k).live=true)(O:Eu (H k).cells){s':Nat→AV}
  (hs:∀j,s' j=s j∨(∃off c,s j=.ref k (H k).g off c∧s' j=.ref k' ((H k').g+1) off c)∨(s j=.mp k (H k).g∧s' j=.mp k' ((H k').g+1))):R l n B ⟨s',updH (updH H k {H k with live:=false }) k' {H k with g:=(H k').g+1 }⟩ act w:=by
 obtain⟨m,S,r,hn,Z,hS,hex⟩:=h.un
 have hne:k≠k':=by rintro rfl;omega
 let J:=updH (updH H k {H k with live:=false }) k' {H k with g:=(H k').g+1 }
 let N:=AY m k' (m k)
 have K:J k'={H k with g:=(H k').g+1 }:=AH _ _ _
 have e2:J k={H k with live:=false }:=by show updH _ _ _ _=_;rw[Av _ _ hne,AH]
 have M:∀q,q≠k→q≠k'→J q=H q:=fun q p b=>by show updH _ _ _ _=_;rw[Av _ _ b,Av _ _ p]
 have f1:N k'=m k:=AN _ _ _
 have f2:∀q,q≠k'→N q=m q:=fun q h=>AL _ _ h
 have F:Ext (l+1) H m S w J N S w:=by
  refine⟨fun _ h=>h,fun _ _=>rfl,fun q f=>?_,fun q f hg a=>?_,rfl,rfl,rfl,Yh _⟩
  ·by_cases p:q=k'
   ·grind
   ·by_cases b:q=k
    ·grind
    grind
  ·by_cases p:q=k'
   ·grind
   ·by_cases b:q=k
    ·grind
    grind
 have src:∀q:Ab,(J q).live=true→(q=k'∧True)∨(q≠k∧q≠k'∧(H q).live=true):=fun q f=>by
  by_cases p:q=k'
  ·grind
  ·by_cases b:q=k
   ·grind
   grind
 have X:Ok (l+1) J N S w:=by
  refine⟨r.sub,fun q f a o=>?_,fun q f a o=>?_,fun q A f I a G o z heq=>?_,fun q f a o=>?_,⟨fun q f a=>?_,fun q f a he=>?_,fun q A f I a G he y heq=>?_⟩⟩
  ·rcases src q a with⟨rfl,_⟩|⟨p,b,u⟩
   ·rw[f1]at o;rw[K];exact r.empty k (by omega) hl o
   ·rw[f2 q b]at o;rw[M q p b];exact r.empty q f u o
  ·rcases src q a with⟨rfl,_⟩|⟨p,b,u⟩
   ·rw[f1]at o⊢;exact r.fresh k (by omega) hl o
   ·rw[f2 q b]at o⊢;exact r.fresh q f u o
  ·rcases src q a with⟨rfl,_⟩|⟨p,b,u⟩<;>rcases src A G with⟨rfl,_⟩|⟨D,t,E⟩
   ·rfl
   ·rw[f1]at o heq;rw[f2 A t]at z heq
    exact absurd (r.inj k A (by omega) I hl E o z heq) (Ne.symm D)
   ·rw[f1]at z heq;rw[f2 q b]at o heq
    exact absurd (r.inj q k f (by omega) u hl o z heq) p
   ·rw[f2 q b]at o heq;rw[f2 A t]at z heq
    exact r.inj q A f I u E o z heq
  ·rcases src q a with⟨rfl,_⟩|⟨p,b,u⟩
   ·rw[f1]at o
    obtain⟨C,U,V,W,P⟩:=r.blk k (by omega) hl o
    rw[K,f1]
    refine⟨C,U,V,W,fun i x v hi T=>⟨(P i x v hi T).1,?_⟩⟩
    have L:=(P i x v hi T).2
    have hf:=O x (Yn hi)
    cases x with
    |d x=>cases L with|d _ _ Y=>exact .d _ _ Y
    |_=>cases hf
   ·rw[f2 q b]at o
    obtain⟨C,U,V,W,P⟩:=r.blk q f u o
    rw[M q p b,f2 q b]
    exact⟨C,U,V,W,fun i x v hi T=>⟨(P i x v hi T).1,(P i x v hi T).2.ext F f⟩⟩
  ·rcases src q a with⟨rfl,_⟩|⟨p,b,u⟩
   ·rw[f1,K];exact r.mp.o k (by omega) hl
   ·rw[f2 q b,M q p b];exact r.mp.o q f u
  ·rcases src q a with⟨rfl,_⟩|⟨p,b,u⟩
   ·rw[f1];rw[K]at he;exact r.mp.c k (by omega) hl he
   ·rw[f2 q b];rw[M q p b]at he;exact r.mp.c q f u he
  ·rcases src q a with⟨rfl,_⟩|⟨p,b,u⟩<;>rcases src A G with⟨rfl,_⟩|⟨D,t,E⟩
   ·rfl
   ·rw[f1,f2 A t]at heq;rw[K]at he;rw[M A D t]at y
    exact absurd (r.mp.i k A (by omega) I hl E he y heq) (Ne.symm D)
   ·rw[f1,f2 q b]at heq;rw[K]at y;rw[M q p b]at he
    exact absurd (r.mp.i q k f (by omega) u hl he y heq) p
   ·rw[f2 q b,f2 A t]at heq;rw[M q p b]at he;rw[M A D t]at y
    exact r.mp.i q A f I u E he y heq
 refine⟨N,S,X,hn,Z,fun i=>?_,hex.trans (F.mono (by omega))⟩
 show RepA w S J N (l+1) (s' i) _
 have L:=hS i
 generalize act.tmps.getD i Go.undef=v at L⊢
 rcases hs i with e|⟨off,c,e,e'⟩|⟨e,e'⟩
 ·rw[e];exact L.ext F (Yh _)
 rotate_left
 ·rw[e']
  rw[e]at L
  obtain⟨_,rfl⟩:=W0 L rfl hl
  have:=RepA.mpL (w:=w) (S:=S) (H:=J) (m:=N) (l:=l+1) k' (by omega) (by rw[K];exact hl)
  grind
 ·rw[e']
  rw[e]at L
  generalize hg:(H k).g=g at L
  cases L with
  |refD _ _ _ _ _ f hg' Y p=>rw[Y hg.symm]at hl;cases hl
  |refL _ _ _ oa f a Q ha=>
   have:=RepA.refL (w:=w) (S:=S) (H:=J) (m:=N) (l:=l+1) k' off c oa (by omega) (by rw[K];exact hl) (by rw[f1];exact Q) (fun h=>by rw[f1]at h⊢;rw[K];exact ha h)
   grind
theorem Ok.rekey(j:Ok (l+1) H m S w){k k':Ab}(W:k.1≤l+1)(R:k'.1≤l+1)(O:k≠k')(hl:(H k).live=true)(D:Eu (H k).cells):
  Ok (l+1) (updH (updH H k {H k with live:=false }) k' {H k with g:=(H k').g+1 }) (AY m k' (m k)) S w∧Ext (l+1) H m S w (updH (updH H k {H k with live:=false }) k' {H k with g:=(H k').g+1 }) (AY m k' (m k)) S w:=by
 let E:=updH (updH H k {H k with live:=false }) k' {H k with g:=(H k').g+1 }
 let J:=AY m k' (m k)
 have F:E k'={H k with g:=(H k').g+1 }:=AH _ _ _
 have U:E k={H k with live:=false }:=by show updH _ _ _ _=_;rw[Av _ _ O,AH]
 have A:∀q,q≠k→q≠k'→E q=H q:=fun q e b=>by show updH _ _ _ _=_;rw[Av _ _ b,Av _ _ e]
 have f1:J k'=m k:=AN _ _ _
 have f2:∀q,q≠k'→J q=m q:=fun q h=>AL _ _ h
 have B:Ext (l+1) H m S w E J S w:=by
  refine⟨fun _ h=>h,fun _ _=>rfl,fun q f=>?_,fun q f V a=>?_,rfl,rfl,rfl,Yh _⟩
  ·by_cases e:q=k'
   ·grind
   ·by_cases b:q=k
    ·grind
    grind
  ·by_cases e:q=k'
   ·grind
   ·by_cases b:q=k
    ·grind
    grind
 have src:∀q:Ab,(E q).live=true→(q=k'∧True)∨(q≠k∧q≠k'∧(H q).live=true):=fun q f=>by
  by_cases e:q=k'
  ·grind
  ·by_cases b:q=k
   ·grind
   grind
 have N:Ok (l+1) E J S w:=by
  refine⟨j.sub,fun q f a c=>?_,fun q f a c=>?_,fun q s f z a y c r heq=>?_,fun q f a c=>?_,⟨fun q f a=>?_,fun q f a he=>?_,fun q s f z a y he p heq=>?_⟩⟩
  ·rcases src q a with⟨rfl,_⟩|⟨e,b,o⟩
   ·rw[f1]at c;rw[F];exact j.empty k (by omega) hl c
   ·rw[f2 q b]at c;rw[A q e b];exact j.empty q f o c
  ·rcases src q a with⟨rfl,_⟩|⟨e,b,o⟩
   ·rw[f1]at c⊢;exact j.fresh k (by omega) hl c
   ·rw[f2 q b]at c⊢;exact j.fresh q f o c
  ·rcases src q a with⟨rfl,_⟩|⟨e,b,o⟩<;>rcases src s y with⟨rfl,_⟩|⟨t,n,u⟩
   ·rfl
   ·rw[f1]at c heq;rw[f2 s n]at r heq
    exact absurd (j.inj k s (by omega) z hl u c r heq) (Ne.symm t)
   ·rw[f1]at r heq;rw[f2 q b]at c heq
    exact absurd (j.inj q k f (by omega) o hl c r heq) e
   ·rw[f2 q b]at c heq;rw[f2 s n]at r heq
    exact j.inj q s f z o u c r heq
  ·rcases src q a with⟨rfl,_⟩|⟨e,b,o⟩
   ·rw[f1]at c
    obtain⟨C,K,L,M,G⟩:=j.blk k (by omega) hl c
    rw[F,f1]
    refine⟨C,K,L,M,fun i x v hi I=>⟨(G i x v hi I).1,?_⟩⟩
    have T:=(G i x v hi I).2
    have Q:=D x (Yn hi)
    cases x with
    |d x=>cases T with|d _ _ P=>exact .d _ _ P
    |_=>cases Q
   ·rw[f2 q b]at c
    obtain⟨C,K,L,M,G⟩:=j.blk q f o c
    rw[A q e b,f2 q b]
    exact⟨C,K,L,M,fun i x v hi I=>⟨(G i x v hi I).1,(G i x v hi I).2.ext B f⟩⟩
  ·rcases src q a with⟨rfl,_⟩|⟨e,b,o⟩
   ·rw[f1,F];exact j.mp.o k (by omega) hl
   ·rw[f2 q b,A q e b];exact j.mp.o q f o
  ·rcases src q a with⟨rfl,_⟩|⟨e,b,o⟩
   ·rw[f1];rw[F]at he;exact j.mp.c k (by omega) hl he
   ·rw[f2 q b];rw[A q e b]at he;exact j.mp.c q f o he
  ·rcases src q a with⟨rfl,_⟩|⟨e,b,o⟩<;>rcases src s y with⟨rfl,_⟩|⟨t,n,u⟩
   ·rfl
   ·rw[f1,f2 s n]at heq;rw[F]at he;rw[A s t n]at p
    exact absurd (j.mp.i k s (by omega) z hl u he p heq) (Ne.symm t)
   ·rw[f1,f2 q b]at heq;rw[F]at p;rw[A q e b]at he
    exact absurd (j.mp.i q k f (by omega) o hl he p heq) e
   ·rw[f2 q b,f2 s n]at heq;rw[A q e b]at he;rw[A s t n]at p
    exact j.mp.i q s f z o u he p heq
 exact⟨N,B⟩
theorem R.rename{act:Act}(h:R l n B ⟨s,H⟩ act w){k k' q:Ab}(hk:k.1=l+1)(U:k'.1≤l+1)(F:q.1=l+1)(E:k≠k')(G:q≠k)(p:q≠k')(hl:(H k).live=true)(d:(H q).live=true)(t:Eu (H k).cells)
  {i off c:Nat} (A:(H q).cells[i]?=some (.ref k (H k).g off c)) {s':Nat→AV}
  (hs:∀j,s' j=s j∨(∃off c,s j=.ref k (H k).g off c∧s' j=.ref k' ((H k').g+1) off c)∨(s j=.mp k (H k).g∧s' j=.mp k' ((H k').g+1))):
  R l n B ⟨s',updH (updH (updH H k {H k with live:=false }) k' {H k with g:=(H k').g+1 }) q ⟨(H q).g,true,(H q).e,(H q).sz,(H q).cells.set i (.ref k' ((H k').g+1) off c)⟩⟩ act w:=by
 obtain⟨m,S,y,W,D,N,hex⟩:=h.un
 obtain⟨z,o⟩:=y.rekey (by omega) (by omega) E hl t
 have u:(updH (updH H k {H k with live:=false }) k' {H k with g:=(H k').g+1 }) k'={H k with g:=(H k').g+1 }:=AH _ _ _
 have x:(updH (updH H k {H k with live:=false }) k' {H k with g:=(H k').g+1 }) q=H q:=by rw[Av _ _ p,Av _ _ G]
 have f1:AY m k' (m k) k'=m k:=AN _ _ _
 have f2:AY m k' (m k) q=m q:=AL _ _ p
 have ref:∀{L off c v},L≤l+1→RepA w S H m L (.ref k (H k).g off c) v→RepA w S (updH (updH H k {H k with live:=false }) k' {H k with g:=(H k').g+1 }) (AY m k' (m k)) (l+1) (.ref k' ((H k').g+1) off c) v:=fun {L off c v} hL f=>by
  generalize Q:(H k).g=g at f
  cases f with
  |refD _ _ _ _ _ F T P h1=>rw[P Q.symm]at hl;cases hl
  |refL _ _ _ X F V b O=>
   have:=RepA.refL (w:=w) (S:=S) (H:=updH (updH H k {H k with live:=false }) k' {H k with g:=(H k').g+1 }) (m:=AY m k' (m k)) (l:=l+1) k' off c X (by omega) (by rw[u];exact hl) (by rw[f1];exact b) (fun h=>by rw[f1]at h⊢;rw[u];exact O h)
   grind
 obtain⟨r,a⟩:=z.cell q (by omega) (by rw[x];exact d) i (.ref k' ((H k').g+1) off c) (fun C I v J _=>by
  have b:(m q).cap≠0:=fun e=>by
   have:=y.empty q (by omega) d e
   rw[this]at A;simp at A
  obtain⟨Y,K,Z,b3,M⟩:=y.blk q (by omega) d b
  rw[f2,x,K]at I
  cases I
  rw[f2]at J
  have:=ref (by omega) (M i _ v A J).2
  rw[F];exact this)
 rw[x]at r a
 rw[d]at r a
 refine⟨AY m k' (m k),S,r,W,D,fun i=>?_,(hex.trans (o.mono (by omega))).trans (a.mono (by omega))⟩
 show RepA w S _ _ (l+1) (s' i) _
 have f:=N i
 generalize act.tmps.getD i Go.undef=v at f⊢
 rcases hs i with e|⟨off,c,e,e'⟩|⟨e,e'⟩
 ·rw[e];exact(f.ext o (Yh _)).ext a (Yh _)
 ·rw[e'];rw[e]at f
  exact(ref (Yh _) f).ext a (Yh _)
 ·rw[e'];rw[e]at f
  obtain⟨_,rfl⟩:=W0 f rfl hl
  have:=RepA.mpL (w:=w) (S:=S) (H:=updH (updH H k {H k with live:=false }) k' {H k with g:=(H k').g+1 }) (m:=AY m k' (m k)) (l:=l+1) k' (by omega) (by rw[u];exact hl)
  rw[f1,u]at this
  exact this.ext a (Yh _)
theorem R.trim{d:Act}(h:R l n B ⟨s,H⟩ d w){k:Ab}(o:k.1≤l+1)(hl:(H k).live=true)(c:Nat):R l n B ⟨s,updH H k ⟨(H k).g,(H k).live,(H k).e,(H k).sz,(H k).cells.take c⟩⟩ d w:=by
 obtain⟨m,S,f,u,i,t,hex⟩:=h.un
 have key:Ok (l+1) (updH H k ⟨(H k).g,(H k).live,(H k).e,(H k).sz,(H k).cells.take c⟩) m S w∧Ext (l+1) H m S w (updH H k ⟨(H k).g,(H k).live,(H k).e,(H k).sz,(H k).cells.take c⟩) m S w:=by
  by_cases a:(m k).cap=0
  ·have p:=f.empty k o hl a
   have e:(⟨(H k).g,(H k).live,(H k).e,(H k).sz,(H k).cells.take c⟩:Blk)=H k:=by rw[p];simp;rw[←p]
   rw[e,P3 H k _ rfl]
   exact⟨f,Ext.refl _ _ _ _ _⟩
  ·obtain⟨C,z,q,A,r⟩:=f.blk k o hl a
   exact f.write k o hl a ((H k).cells.take c) C q (by rw[YO];omega) w (fun b=>by split<;>simp_all) rfl rfl rfl rfl (fun j y v g x=>by
    rw[YY]at g
    split at g
    ·exact r j y v g x
    ·cases g)
 exact⟨m,S,key.1,u,i,t.ext key.2,hex.trans (key.2.mono (by omega))⟩
theorem R.rebase{act:Act}(h:R l n B ⟨s,H⟩ act w){k:Ab}(b:k.1≤l+1)(hl:(H k).live=true){j off c:Nat}(Q:s j=.ref k (H k).g off c)(G:off*(H k).sz≤(H k).cells.length):
  R l n B ⟨upd s j (.ref k ((H k).g+1) 0 c),updH H k ⟨(H k).g+1,true,.t (H k).e.ty,(H k).sz,(H k).cells.drop (off*(H k).sz)⟩⟩ act w:=by
 obtain⟨m,S,d,U,r,E,hex⟩:=h.un
 have o:=E j
 rw[Q]at o
 generalize Y:act.tmps.getD j Go.undef=v at o
 generalize O:(H k).g=g at o
 cases o with
 |refD _ _ _ _ _ W P q h1=>rw[q O.symm]at hl;cases hl
 |refL _ _ _ Z W T F N=>
  have fin:∀(M:MB),M.cap=(m k).cap-off→(M.cap≠0→M.b=(m k).b∧M.o=(m k).o+off*(H k).sz)→(Ok (l+1) (updH H k ⟨(H k).g+1,true,.t (H k).e.ty,(H k).sz,(H k).cells.drop (off*(H k).sz)⟩) (AY m k M) S w∧Ext (l+1) H m S w (updH H k ⟨(H k).g+1,true,.t (H k).e.ty,(H k).sz,(H k).cells.drop (off*(H k).sz)⟩) (AY m k M) S w)→
    R l n B ⟨upd s j (.ref k ((H k).g+1) 0 c),updH H k ⟨(H k).g+1,true,.t (H k).e.ty,(H k).sz,(H k).cells.drop (off*(H k).sz)⟩⟩ act w:=fun M D p a=>by
   refine⟨_,S,a.1,U,r,fun i=>?_,hex.trans (a.2.mono (by omega))⟩
   show RepA w S _ _ (l+1) (upd s j (.ref k ((H k).g+1) 0 c) i) _
   by_cases hi:i=j
   ·subst hi
    rw[Y]
    have:=RepA.refL (w:=w) (S:=S) (H:=updH H k ⟨(H k).g+1,true,.t (H k).e.ty,(H k).sz,(H k).cells.drop (off*(H k).sz)⟩) (m:=AY m k M) (l:=l+1) k 0 c Z b (by rw[AH]) (by rw[AN,D];omega) (fun V=>by
     rw[AN]at V⊢
     rw[AH]
     obtain⟨K,L⟩:=p (by omega)
     rw[N (by omega),K,L];simp)
    rw[AH,AN,D]at this
    simpa[upd]using this
   ·simp only[upd,Yj hi]
    exact(E i).ext a.2 (Yh _)
  by_cases J:(m k).cap-off=0
  ·have q:(H k).cells.drop (off*(H k).sz)=[]:=by
    refine a8 ?_
    by_cases f:(m k).cap=0
    ·rw[d.empty k b hl f];simp
    ·obtain⟨C,t,y,z,A⟩:=d.blk k b hl f
     rw[show off=(m k).cap from by omega];exact z
   refine fin ⟨0,0,0⟩ (by rw[J]) (fun e=>absurd rfl e) ?_
   rw[q]
   exact d.overEmpty k b ((H k).g+1) (H k).e.ty (H k).sz (Em _) ⟨0,0,0⟩ rfl
  ·obtain⟨C,t,y,z,A⟩:=d.blk k b hl (by omega)
   have I:off*(H k).sz+((m k).cap-off)*(H k).sz=(m k).cap*(H k).sz:=by rw[←YN];congr 1;omega
   refine fin ⟨(m k).b,(m k).o+off*(H k).sz,(m k).cap-off⟩ rfl (fun _=>⟨rfl,rfl⟩) ?_
   refine d.over k b ⟨(H k).g+1,true,.t (H k).e.ty,(H k).sz,(H k).cells.drop (off*(H k).sz)⟩ ⟨(m k).b,(m k).o+off*(H k).sz,(m k).cap-off⟩ (Em _) rfl J C w (fun i=>?_) (.inr ⟨rfl,hl,by omega⟩)
    (by rw[y];simp only;omega) (by simp only[Ft];omega) (fun i x u hi X=>?_) (Yh _) rfl rfl rfl
   ·split
    ·rename_i e;rw[e,t];rfl
    ·rfl
   ·rw[YP]at hi
    exact A _ x u hi (by rw[←YB];exact X)
theorem R.adoptC{b:Act}{e:TypeId}{sz i:Nat}(h:R l n B ⟨s,H⟩ b w){k kp:Ab}(L:k.1=l+1)(A:kp.1=l+1)(d:kp≠k)(a:(H kp).live=true)(j:(H kp).cells[i]?=some .e0):
  R l n B ⟨s,updH (updH H k ⟨(H k).g+1,true,e,sz,[]⟩) kp ⟨(H kp).g,(H kp).live,(H kp).e,(H kp).sz,(H kp).cells.set i (.ref k ((H k).g+1) 0 0)⟩⟩ b w:=by
 obtain⟨m,S,g,D,o,z,hex⟩:=h.un
 obtain⟨F,t⟩:=g.overEmpty k (by omega) ((H k).g+1) e sz (Em _) ⟨0,0,0⟩ rfl
 have p:updH H k ⟨(H k).g+1,true,e,sz,[]⟩ kp=H kp:=Av _ _ d
 have hm:AY m k ⟨0,0,0⟩ kp=m kp:=AL _ _ d
 obtain⟨u,q⟩:=F.cell kp (by omega) (by rw[p];exact a) i (.ref k ((H k).g+1) 0 0) (fun C f v r _=>by
  rw[hm]at f r
  rw[p]at f
  have c:(m kp).cap≠0:=fun e=>by
   have:=g.empty kp (by omega) a e
   rw[this]at j
   simp at j
  obtain⟨I,x,J,K,y⟩:=g.blk kp (by omega) a c
  rw[x]at f
  cases f
  have E:=(y _ _ v j r).2
  cases E with
  |e0 G=>
   have:=RepA.refL (w:=w) (S:=S) (H:=updH H k ⟨(H k).g+1,true,e,sz,[]⟩) (m:=AY m k ⟨0,0,0⟩) (l:=kp.1) k 0 0 G (by omega) (by rw[AH]) (by rw[AN];simp) (fun h=>by rw[AN]at h;simp at h)
   rw[AH,AN]at this
   exact this)
 rw[p]at u q
 exact⟨_,S,u,D,o,(z.ext t).ext q,(hex.trans (t.mono (by omega))).trans (q.mono (by omega))⟩
theorem Ok.killO{L:Nat}(h:Ok L H m S w)(k:Ab)(D:k.1≤L)(hl:(H k).live=true)(B:(H k).e.isO=true):
  Ok L (updH H k {H k with live:=false }) m (fun b=>S b∨b=(m k).b) w∧Ext L H m S w (updH H k {H k with live:=false }) m (fun b=>S b∨b=(m k).b) w:=by
 obtain⟨K,G,I⟩:=(h.mp.o k D hl).at B
 have n:Ext L H m S w (updH H k {H k with live:=false }) m (fun b=>S b∨b=(m k).b) w:=by
  refine⟨fun _ h=>.inl h,fun _ _=>rfl,fun q c=>?_,fun q c J a=>?_,rfl,rfl,rfl,Yh _⟩
  ·by_cases e:q=k
   ·subst e;rw[AH];exact Yh _
   ·rw[Av _ _ e];exact Yh _
  ·by_cases e:q=k
   ·subst e;rw[AH]at a;cases a
   ·rw[Av _ _ e]at a⊢;exact⟨a,rfl,rfl⟩
 have d:∀q:Ab,(updH H k {H k with live:=false } q).live=true→q≠k∧(H q).live=true∧updH H k {H k with live:=false } q=H q:=fun q c=>by
  by_cases e:q=k
  ·subst e;rw[AH]at c;cases c
  ·rw[Av _ _ e]at c;exact⟨e,c,Av _ _ e⟩
 refine⟨⟨fun b l=>?_,fun q c a o=>?_,fun q c a o=>?_,fun q u c r a j o z heq=>?_,fun q c a o=>?_,
  ⟨fun q c a=>?_,fun q c a he=>?_,fun q u c r a j he t heq=>?_⟩⟩,n⟩
 ·rcases l with l|rfl
  ·exact h.sub b l
  grind
 ·obtain⟨e,f,g⟩:=d q a
  rw[g];exact h.empty q c f o
 ·obtain⟨e,f,g⟩:=d q a
  rintro(hs|l)
  ·exact h.fresh q c f o hs
  ·obtain⟨C,A,_⟩:=h.blk q c f o
   rw[l,G]at A;cases A;cases I
 ·obtain⟨e,f,g⟩:=d q a
  obtain⟨e',p,s⟩:=d u j
  exact h.inj q u c r f p o z heq
 ·obtain⟨e,f,g⟩:=d q a
  rw[g]
  obtain⟨C,l,hs,y,F⟩:=h.blk q c f o
  exact⟨C,l,hs,y,fun i x v hi E=>⟨(F i x v hi E).1,(F i x v hi E).2.ext n c⟩⟩
 ·obtain⟨e,f,g⟩:=d q a
  rw[g]
  exact(h.mp.o q c f).mono (fun _ h=>.inl h) (fun _ _=>rfl) (fun _=>rfl)
 ·obtain⟨e,f,g⟩:=d q a
  rw[g]at he
  refine⟨(h.mp.c q c f he).1,?_⟩
  rintro(hs|l)
  ·exact(h.mp.c q c f he).2 hs
  ·exact e (h.mp.i q k c D f hl he B l)
 ·obtain⟨e,f,g⟩:=d q a
  obtain⟨e',p,s⟩:=d u j
  rw[g]at he;rw[s]at t
  exact h.mp.i q u c r f p he t heq
def DP(x:AV):List Nat→(Nat→AV)→Nat→AV
 |[],s=>s
 |j::r,s=>DP x r (upd s j x)
theorem Mt(x:AV):∀(c:List Nat) (s:Nat→AV) (i:Nat),DP x c s i=if i∈c then x else s i
 |[],s,i=>by simp[DP]
 |j::r,s,i=>by
  rw[DP,Mt x r]
  by_cases b:i∈r
  ·grind
  ·rw[Yj b]
   by_cases a:i=j
   ·subst a;simp[upd]
   ·rw[Yj (by simp[b,a])];simp[upd,a]
theorem R.freezeM{a:Act}(h:R l n B ⟨s,H⟩ a w){k:Ab}{q:Bool}{d:List (List D)}(r:k.1≤l+1)(hl:(H k).live=true)(he:(H k).e=.m q d)(b:List Nat)(g:∀j∈b,s j=.mp k (H k).g):
  R l n B ⟨DP (.d (.map q d)) b s,updH H k {H k with live:=false }⟩ a w:=by
 obtain⟨m,S,o,A,f,p,hex⟩:=h.un
 have e:(H k).e.isO=true:=by rw[he];rfl
 obtain⟨C,v⟩:=o.killO k r hl e
 refine⟨m,_,C,A,f,fun i=>?_,hex.trans (v.mono (by omega))⟩
 show RepA w _ _ m (l+1) (DP (.d (.map q d)) b s i) _
 rw[Mt]
 by_cases hi:i∈b
 ·rw[Yi hi]
  have u:=p i
  rw[show s i=.mp k (H k).g from g i hi]at u
  obtain⟨_,x⟩:=W0 u rfl hl
  rw[x]
  have t:=o.mp.o k r hl
  rw[he]at t
  obtain⟨ents,c,y,z⟩:=t
  exact .d _ _ (.ofM (.inr rfl) y (z.mono (fun _ h=>.inl h) (fun _ _=>rfl)))
 ·rw[Yj hi];exact(p i).ext v (Yh _)
theorem R.freezeB{act:Act}(h:R l n B ⟨s,H⟩ act w){k:Ab}{ds:List D}(o:k.1≤l+1)(hl:(H k).live=true)(t:(H k).cells=ds.map .d)(E:ds≠[])(q:List Nat)(z:∀j∈q,s j=.ptr k (H k).g 0):
  R l n B ⟨DP (.iptr ds 0) q s,updH H k {H k with live:=false }⟩ act w:=by
 obtain⟨m,S,r,N,y,I,hex⟩:=h.un
 obtain⟨O,F⟩:=r.kill k o hl
 have a:(m k).cap≠0:=fun e=>by
  have:=r.empty k o hl e
  rw[t]at this
  exact E (Sl.1 this)
 obtain⟨C,K,P,G,L⟩:=r.blk k o hl a
 refine⟨m,_,O,N,y,fun i=>?_,hex.trans (F.mono (by omega))⟩
 show RepA w _ _ m (l+1) (DP (.iptr ds 0) q s i) _
 rw[Mt]
 by_cases hi:i∈q
 ·rw[Yi hi]
  have p:=I i
  rw[show s i=.ptr k (H k).g 0 from z i hi]at p
  generalize act.tmps.getD i Go.undef=v at p
  generalize M:(H k).g=g at p
  cases p with
  |ptrD _ _ _ _ _ _ u _=>rw[u M.symm]at hl;cases hl
  |ptrL _ _ _ _=>
   have J:ds.length≤(m k).cap*(H k).sz:=by rw[t,YD]at G;exact G
   have:=RepA.iptr (w:=w) (S:=fun b=>S b∨(b=(m k).b∧(m k).cap≠0)) (H:=updH H k {H k with live:=false }) (m:=m) (l:=l+1) ds 0 ⟨(m k).b,(m k).o,none⟩ (fun j=>(C[(m k).o+j]?).getD Go.undef) (.inr ⟨rfl,a⟩)
    (fun j x f=>by
     have A:j<ds.length:=(Yd.1 f).1
     rw[Addr.add_lit,Ho K,Ym (by omega)];rfl)
    (fun j x f=>by
     have A:j<ds.length:=(Yd.1 f).1
     have c:C[(m k).o+j]?=some (C[(m k).o+j]'(by omega)):=Ym (by omega)
     obtain⟨_,g2⟩:=L j (.d x) _ (by rw[t,YJ,f];rfl) c
     rw[c]
     cases g2.ext F o with|d _ _ u=>exact u)
   exact this
 ·rw[Yj hi];exact(I i).ext F (Yh _)
end
end Go.Eng
namespace Go.Eng
set_option linter.all false
open Go Go.RowKit
def KA(r:Ren)(l n outs:Nat)(B:Base)(env:Bl)(K:St→AT→Prop)(σ:St):Prop:=∃b,IJ r l outs env K b∧∀a w,R l n B σ a w→R l n B b a w
section
variable {P:Program} {T:Nat→Option TI} {r:Ren} {l n outs:Nat} {B:Base} {env:Bl} {τ σ:St} {a:AT} {o:Oper} {K:St→AT→Prop}
theorem KA.of(h:IJ r l outs env K σ):KA r l n outs B env K σ:=⟨σ,h,fun _ _ h=>h⟩
theorem Mw{d:Nat}{e:TypeId}{sz:Nat}{cells:List AV}{x:Nat→AV}(h:Dt l n d e sz cells x (IJ r l outs env K) σ):Dt l n d e sz cells x (KA r l n outs B env K) σ:=⟨h.1,.of h.2⟩
theorem n6(i:AX P T)(h:RG r l outs env τ σ){d:Nat}(k:o.dst=some d)(j:BU env [] o.op=true)(m:fresh d env=true)(p:tV T τ.H o.op (ev τ.s) none a (D9 n d K τ))
  (c:Bg P l n o (KA r l n outs B ((d,[])::env) K) σ=AS P σ.H o.op (ev σ.s) (B6 n o.dst (KA r l n outs B ((d,[])::env) K) σ)):Bg P l n o (KA r l n outs B ((d,[])::env) K) σ:=by
 rw[c,k]
 refine P4 (fun y hy=>?_) (sI i h AU (fun b e=>by cases e) j p)
 obtain⟨f,g⟩:=PJ h m hy
 exact⟨f,.of g⟩
theorem mz{x:AV}{d:D}(h:Fe x=some d):ren r x=x:=by
 cases x<;>simp only[Fe]at h<;>first|(simp[ren];done)|cases h
theorem mD:∀{xs:List AV} {ds:List D},CX xs=some ds→Aj r xs=xs
 |[],_,_=>by simp[Aj]
 |x::xs,ds,h=>by
  simp only[CX]at h
  split at h
  ·rename_i d a b c
   rw[Aj,mz b,mD c]
  ·cases h
theorem Zz9{x:AV}{e:List D}(h:KX x=some e):ren r x=x:=by
 cases x with
 |agg xs=>simp only[KX]at h;rw[ren,mD h]
 |_=>
  simp only[KX]at h
  split at h
  ·rename_i d a;exact mz a
  ·cases h
theorem PK{sz:Nat}:∀{ps:List (Nat×AV)} {i:Nat} {a:List (List D)},EM sz i ps=some a→(ps.map fun p=>(p.1,ren r p.2))=ps
 |[],_,_,_=>rfl
 |(j,v)::ps,i,a,h=>by
  simp only[EM]at h
  split at h
  ·rename_i e b c d
   simp only[Y4,Zz9 c,PK d]
  ·cases h
theorem WV(h:RG r l outs env τ σ){sz c:Nat}{y:AV}{news:List AV}(i:Rv τ.H sz y=true)(hs:EI sz (cellsOf τ.H y) y c news):HN σ.H sz (ren r y)=some (c,Aj r news)∧(Aj r news).all AV.one=true:=by
 obtain⟨p,a⟩:=hs
 have b:(Aj r news).all AV.one=true:=by
  rw[Er,List.all_map]
  refine Yk.2 fun x q=>?_
  have:=Yk.1 p x q
  cases x<;>first|(simp[Function.comp,ren,AV.one];done)|cases this
 refine⟨?_,b⟩
 split at a
 ·obtain⟨rfl,rfl⟩:=a;simp[ren,HN,Aj]
 ·rename_i t
  obtain⟨d,rfl,rfl⟩:=a
  simp only[ren,HN]
  rw[Yi (Yk.2 fun e he=>by simpa using d e he),Gg]
 ·rename_i k g off m
  obtain⟨rfl,d,rfl⟩:=a
  simp only[Rv,Yb]at i
  obtain⟨hl,s⟩:=i
  obtain⟨j,n,u,o,f⟩:=h.h.at hl
  have e:cellsOf τ.H (.ref k g off c)=(τ.H k).cells:=by simp[cellsOf,hl]
  rw[e]at d⊢
  simp only[ren,HN]
  rw[Yi ⟨j,n,by rw[o];exact Ya s,by rw[f,B8];exact d⟩,f,D1,Ep]
 ·exact a.elim
theorem ZnX(E:RenOk r l outs)(F:AX P T)(h:RG r l outs env τ σ){d:Nat}{t:TypeId}{x y:AV}(X:fresh d env=true)(b:Tm T r n d t x y a K τ):
  JJ P l n d t (ren r x) (ren r y) (KA r l n outs B ((d,[])::env) K) σ:=by
 unfold Tm at b
 split at b
 case h_2=>exact b.elim
 rename_i i hi
 split at b
 case h_2=>exact b.elim
 rename_i e sz he
 split at b
 case h_2=>exact b.elim
 rename_i j L J m
 have J:=Yf J
 unfold JJ
 rw[(F _ _ hi).elm _ he]
 split at b
 ·rename_i byt z c news q W Z
  obtain⟨f,U,o⟩:=b
  obtain⟨O,Q⟩:=WV h m f
  obtain⟨M,N⟩:=(F _ _ L).byt _ W
  have G:c*P.bytesOf e≤140737488355328:=ER (Nat.mul_le_mul_left _ M) U
  refine⟨by omega,N,by rw[(F _ _ L).zer _ Z];rfl,?_⟩
  simp only[O,ren]
  refine⟨Q,G,fun hc=>?_,fun hc=>?_⟩
  ·subst hc
   have C:d<n:=by
    unfold HH at o
    split at o
    ·rename_i C;have:=Yf C;omega
    ·exact o.elim
   have hn:=J8 (x':=fun g=>.ref (l+1,d) g 0 0) E h X (fun g=>by simp[ren,E.own]) o
   have I:Aj r news=[]:=by
    have hl:news=[]:=by
     obtain⟨_,f⟩:=f
     split at f
     ·exact f.2
     ·obtain⟨_,A,p⟩:=f
      have:‹List (List D)›=[]:=Y8 A.symm
      rw[this]at p;simpa using p
     ·obtain⟨A,_,p⟩:=f;rw[←A]at p;simpa using p
     ·exact f.elim
    rw[hl];simp[Aj]
   rw[I]at hn
   refine⟨C,_,hn.2,fun act w hR=>?_⟩
   have:=R.adopt (e:=e) (sz:=sz) hR (l+1,d) rfl ((σ.H (l+1,d)).g+1) (Em _) (d:=d) (by simp[upd])
   have S:upd (upd σ.s d .e0) d (.ref (l+1,d) ((σ.H (l+1,d)).g+1) 0 0)=upd σ.s d (.ref (l+1,d) ((σ.H (l+1,d)).g+1) 0 0):=by funext j;unfold upd;split<;>rfl
   simp only[S]at this
   exact this
  ·exact Mw (J8 (x':=fun g=>.ref (l+1,d) g 0 c) E h X (fun g=>by simp[ren,E.own]) o)
 ·rename_i byt z k q off c' c news C' n' q' W Z
  split at b
  case h_2=>exact b.elim
  rename_i hl u s C
  obtain⟨f,⟨U,o,A,p⟩,V⟩:=b
  obtain⟨V,Y,H⟩:=QC E h (DD hl).2 V
  obtain⟨O,Q⟩:=WV h m f
  obtain⟨M,N⟩:=(F _ _ L).byt _ W
  obtain⟨g1,g2,g3,g4,g5⟩:=h.h.at hl
  have C:=Yf C
  have u:=Ya u
  have s:=vj s
  refine⟨by omega,N,by rw[(F _ _ L).zer _ Z];rfl,?_⟩
  simp only[O,ren]
  refine⟨Q,g1,g2,by rw[g4,u],by rw[g3,s],by rw[g5,B8];exact U,by rw[A];exact ER (Nat.mul_le_mul_left _ M) p,H,by omega,.of ⟨_,_,V,?_⟩⟩
  have h7:=h.put0 (v:=.ref k (q+1) 0 n') (y:=.ref (r.κ k) (r.γ k+q+1) 0 (c'+c)) X (by simp[ren,A,YB])
  have h8:=RG.updH E h7 k ⟨q+1,true,e,sz,C'⟩ rfl Y
  have S:AA r k ⟨q+1,true,e,sz,C'⟩=⟨r.γ k+q+1,true,e,sz,(σ.H (r.κ k)).cells.drop (off*sz)++Aj r news⟩:=by
   simp only[AA,g5,D1,←Fu,o,YB]
  rw[S]at h8
  exact h8
 ·exact b.elim
theorem mf(y:RenOk r l outs)(h:RG r l outs env τ σ){t:TypeId}{i:TI}(hi:TIok P t i){x:AV}{vs:List AV}(c:MK r n i x (some vs) a K τ):
  ∃k g off,ren r x=.ptr k g off∧g=(σ.H k).g∧(σ.H k).live=true∧(Aj r vs).length=P.cellsOf t∧Aj r vs≠[]∧off+(Aj r vs).length≤(σ.H k).cells.length∧(k.1=l+1∨(Aj r vs).all (AV.low k.1)=true)∧
   IJ r l outs env K ⟨σ.s,updH σ.H k {σ.H k with cells:=(σ.H k).cells.take off++Aj r vs++(σ.H k).cells.drop (off+(Aj r vs).length) }⟩:=by
 unfold MK at c
 split at c
 case h_2=>exact c.elim
 rename_i k q off E heq
 cases heq
 split at c
 case h_2=>exact c.elim
 rename_i hl d m
 have d:=Ya d
 have m:=Yf m
 obtain⟨s,u,B,C,v⟩:=h.h.at hl
 obtain⟨F,G⟩:=DD hl
 have fin:∀f z,G4 (τ.H k).cells off vs f→H6 r k vs (K ⟨τ.s,updH τ.H k ⟨q,true,(τ.H k).e,(τ.H k).sz,f⟩⟩ z)→_:=fun f z hs o=>by
  obtain⟨s1,s2⟩:=hs
  obtain⟨o,p,j⟩:=QC y h (DD hl).2 o
  refine(⟨r.κ k,r.γ k+q,off,by simp[ren],s,u,by rw[B8,hi.siz,d],by intro e;have:=congrArg List.length e;rw[B8,G6]at this;omega,by rw[v,B8,B8];exact s1,?_,_,_,o,?_⟩:
   ∃k' g b,ren r (.ptr k q off)=.ptr k' g b∧g=(σ.H k').g∧(σ.H k').live=true∧(Aj r vs).length=P.cellsOf t∧Aj r vs≠[]∧b+(Aj r vs).length≤(σ.H k').cells.length∧(k'.1=l+1∨(Aj r vs).all (AV.low k'.1)=true)∧
   IJ r l outs env K ⟨σ.s,updH σ.H k' {σ.H k' with cells:=(σ.H k').cells.take b++Aj r vs++(σ.H k').cells.drop (b+(Aj r vs).length) }⟩)
  ·exact j
  ·have w:=RG.updH y h k ⟨q,true,(τ.H k).e,(τ.H k).sz,f⟩ rfl p
   have A:AA r k ⟨q,true,(τ.H k).e,(τ.H k).sz,f⟩={σ.H (r.κ k)with cells:=(σ.H (r.κ k)).cells.take off++Aj r vs++(σ.H (r.κ k)).cells.drop (off+(Aj r vs).length) }:=by
    simp only[AA,v,B8,Ep,D1,←Fu,s2,s,B,C,←u]
   rw[A]at w
   exact w
 split at c
 ·split at c
  ·rename_i D;exact fin _ _ ⟨Yf D,rfl⟩ c
  ·exact c.elim
 ·exact fin _ _ c.1 c.2
 ·exact c.elim
theorem nb(L:RenOk r l outs)(D:AX P T)(h:RG r l outs env τ σ)(v:BU env [] o.op=true)(H:Gh env o.dst=true)(s:IP P T l n r o a K τ):Bg P l n o (KA r l n outs B (D6 env o.dst) K) σ:=by
 obtain⟨dst,op,ty,ps,af,gd⟩:=o
 have ops:∀{op:Op},BU env [] op=true→(∀c x y,op≠.pick c x y)→∀x∈op.operands,ev σ.s x=ren r (ev τ.s x):=fun {op} v hne=>by
  unfold BU at v
  split at v
  ·exact absurd rfl (hne _ _ _)
  ·exact EZ h AU v
 unfold IP at s
 simp only at v H s⊢
 split at s
 ·rename_i t
  split at s
  case h_2=>exact s.elim
  rename_i d i hi
  split at s
  case h_2=>exact s.elim
  rename_i z zs A
  have N:=IA (r:=r) ((D _ _ hi).flt _ A)
  have O:=J8 (x':=fun g=>.ptr (l+1,d) g 0) L h H (fun g=>by simp[ren,L.own]) s
  rw[N]at O
  simp only[Bg,(D _ _ hi).zer _ A]
  exact⟨by simp,Mw O⟩
 ·rename_i t x
  split at s
  case h_2=>exact s.elim
  rename_i d z zs A Q
  have M:=ops v (fun _ _ _ e=>by cases e) x (by simp[Op.operands])
  have O:=J8 (x':=fun g=>.ptr (l+1,d) g 0) L h H (fun g=>by simp[ren,L.own]) s
  have E:=Mm (r:=r) A (Mx Q)
  simp only[Bg,M,E]
  refine⟨ZrL (by simp),?_⟩
  rw[B8]
  exact Mw O
 ·rename_i t p x
  split at s
  case h_2=>exact s.elim
  rename_i i hi Q
  have M:=ops v (fun _ _ _ e=>by cases e) x (by simp[Op.operands])
  have hpp:=ops v (fun _ _ _ e=>by cases e) p (by simp[Op.operands])
  cases A:Cq (ev τ.s x)with
  |none=>rw[A]at s;unfold MK at s;split at s<;>first|exact s.elim|(rename_i e;cases e)
  |some vs=>
   rw[A]at s
   have E:=Mm (r:=r) A (Mx Q)
   obtain⟨k,g,off,S,Z,e3,e4,e5,e6,e7,e8⟩:=mf L h (D _ _ hi) s
   simp only[Bg,hpp,M,E,S]
   exact⟨Z,e3,e4,e5,e6,e7,.of e8⟩
 ·rename_i t len parts
  split at s
  case h_2=>exact s.elim
  rename_i d i hi
  split at s
  case h_2=>exact s.elim
  rename_i e sz he
  simp only[Bg,(D _ _ hi).elm _ he]
  split at s
  ·rename_i u
   have u:=Yf u
   refine⟨by omega,?_⟩
   split at s
   ·rename_i hps
    obtain⟨I,G⟩:=PJ h H (y:=.e0) ⟨.e0,a,by simp[ren],s⟩
    exact⟨by rw[←ES,hps];rfl,I,.of G⟩
   ·exact s.elim
  ·rename_i len' u
   have u:=Yf u
   refine⟨by omega,?_⟩
   split at s
   case h_2=>exact s.elim
   rename_i j W X
   split at s
   case h_2=>exact s.elim
   rename_i z A
   split at s
   case h_2=>exact s.elim
   rename_i es F J
   split at s
   case h_2=>exact s.elim
   rename_i hes
   have S:(parts.toList.map fun p=>(p.1,ev σ.s p.2))=parts.toList.map fun p=>(p.1,ev τ.s p.2):=by
    have:(parts.toList.map fun p=>(p.1,ev σ.s p.2))=(parts.toList.map fun p=>(p.1,ev τ.s p.2)).map fun p=>(p.1,ren r p.2):=by
     rw[Ha]
     refine ET fun p s=>?_
     simp only[Function.comp]
     rw[ops v (fun _ _ _ e=>by cases e) p.2 (by simp only[Op.operands,Lm,YU];exact⟨p,s,rfl⟩)]
    rw[this,PK J]
   rw[S]
   simp only[(D _ _ W).zer _ A,J]
   obtain⟨I,G⟩:=PJ h H (y:=.d (.list es)) ⟨.d (.list es),a,by simp[ren],s⟩
   exact⟨Yf X,Ya F,Ya hes,I,.of G⟩
  ·exact s.elim
 ·rename_i t x y
  split at s
  case h_2=>exact s.elim
  rename_i d i k1 c k2 c' m C b hi hx0 hy0
  have M:=ops v (fun _ _ _ e=>by cases e) x (by simp[Op.operands])
  have hy:=ops v (fun _ _ _ e=>by cases e) y (by simp[Op.operands])
  rw[hx0]at M
  rw[hy0]at hy
  split at s
  case h_2=>exact s.elim
  rename_i e sz he
  split at s
  case h_2=>exact s.elim
  rename_i j W u
  split at s
  case h_2=>exact s.elim
  rename_i z byt A U
  split at s
  case h_2=>exact s.elim
  rename_i F
  obtain⟨⟨m1,m2,m3,m4⟩,s⟩:=s
  have F:=Ya F
  have u:=Yf u
  have hb:=(D _ _ W).byt _ U
  have hfz:=(D _ _ W).flt _ A
  have V:C.all AV.flat=true:=by
   subst m4
   refine Yk.2 fun q hq=>?_
   obtain⟨z',E,Y⟩:=N2.1 hq
   rw[(Sn.1 E).2]at Y
   exact Yk.1 hfz q Y
  have N:=IA (r:=r) V
  have O:=J8 (x':=fun g=>.ref (l+1,d) g 0 m) L h H (fun g=>by simp[ren,L.own]) s
  rw[N]at O
  simp only[Bg,(D _ _ hi).elm _ he,M,hy,ren,(D _ _ W).zer _ A]
  subst m1
  have hbb:(P.bytesOf e:Int)*c'≤(byt:Int)*c':=bd (by omega) (by omega)
  refine⟨by omega,m2,by omega,hb.2,by omega,F,?_⟩
  simp only[Y7,m4]
  exact Mw O
 ·rename_i c
  split at s
  ·rename_i w
   split at s
   case h_2=>exact s.elim
   rename_i d x y t t' ha ht
   split at s
   case h_2=>exact s.elim
   rename_i R
   have R:=Ya R
   subst R
   have G:c.argTypes=#[t,t]:=CC (by simpa using ht)
   have M:=ops v (fun _ _ _ e=>by cases e) x (by simp only[Op.operands,Call.operands,Ll];exact .inr (by rw[←SD,ha];simp))
   have hy:=ops v (fun _ _ _ e=>by cases e) y (by simp only[Op.operands,Call.operands,Ll];exact .inr (by rw[←SD,ha];simp))
   simp only[Bg,w,ha,ht]
   refine⟨by rw[G];rfl,?_⟩
   rw[M,hy]
   exact ZnX L D h H s
  ·rename_i hna
   split at s
   case h_2=>exact s.elim
   rename_i d
   unfold pV at s
   simp only at s
   split at s
   ·rename_i f w
    obtain⟨i,first,caps,x,a',S,Z,e3⟩:=Wg h AU (fun b e=>by cases e) w v s
    simp only[Bg,w,S]
    refine Z.mono fun y H' ⟨I,G⟩=>?_
    subst I;subst G
    obtain⟨I,G⟩:=PJ h H (y:=ren r x) ⟨x,a',rfl,e3⟩
    exact⟨I,.of G⟩
   ·rename_i hnv
    refine n6 (o:=⟨some d,.call c,ty,ps,af,gd⟩) D h rfl v H s ?_
    simp only[Bg]
 ·rename_i I G h3 h4 h5 h6
  split at s
  case h_2=>exact s.elim
  rename_i d
  have hp':tV T τ.H op (ev τ.s) none a (D9 n d K τ):=by
   unfold pV at s
   split at s
   ·exact absurd rfl (h6 _)
   ·exact absurd rfl (h4 _ _ _)
   ·exact s
  refine n6 (o:=⟨some d,op,ty,ps,af,gd⟩) D h rfl v H hp' ?_
  simp only[Bg]
theorem oo{d:Option Nat}{v y:AV}{c:Hp}(f:Gh env d=true){τ':St}(h:RG r l outs env ⟨τ.s,τ'.H⟩ ⟨σ.s,c⟩)(hy:y=ren r v)(b:Ou n K τ.s τ'.H v a d):
  B6 n d (KA r l n outs B (D6 env d) K) ⟨σ.s,c⟩ y:=by
 cases d with
 |none=>exact .of ⟨_,_,b,h⟩
 |some d=>
  simp only[Ou]at b
  split at b
  ·rename_i e;exact⟨Yf e,.of ⟨_,_,b,h.put0 f hy⟩⟩
  ·exact b.elim
theorem WI(Q:RenOk r l outs)(A:AX P T)(h:RG r l outs env τ σ)(s:BU env [] o.op=true)(hf:Gh env o.dst=true)(d:HU P T l n r o a K τ):B2 P l n B o (KA r l n outs B (D6 env o.dst) K) σ:=by
 have ops:∀{op:Op},BU env [] op=true→(∀c x y,op≠.pick c x y)→∀x∈op.operands,ev σ.s x=ren r (ev τ.s x):=fun {op} s hne=>by
  unfold BU at s
  split at s
  ·exact absurd rfl (hne _ _ _)
  ·exact EZ h AU s
 unfold HU at d
 split at d
 case h_2=>exact Iy (nb Q A h s hf d)
 rename_i c ho
 split at d
 ·rename_i f
  split at d
  case h_2=>exact d.elim
  rename_i x y t t' ha ht
  have u:o.op=.call ⟨.builtin .copy,#[x,y],#[t,t']⟩:=by
   rw[ho]
   have C:c.args=#[x,y]:=CC (by simpa using ha)
   have O:c.argTypes=#[t,t']:=CC (by simpa using ht)
   cases c;simp only at f C O;subst f;subst C;subst O;rfl
  rw[u]at s
  have Z:=ops s (fun _ _ _ e=>by cases e) x (by simp[Op.operands,Call.operands])
  have hy:=ops s (fun _ _ _ e=>by cases e) y (by simp[Op.operands,Call.operands])
  unfold fG at d
  split at d
  case h_2=>exact d.elim
  rename_i i i' hi hi'
  split at d
  case h_2=>exact d.elim
  rename_i e sz e' sz' he he'
  split at d
  case h_2=>exact d.elim
  rename_i j q1 q2 V w Y
  split at d
  case h_2=>exact d.elim
  rename_i z k q off cn cnt news N b hz J
  split at d
  case h_2=>exact d.elim
  rename_i hl m
  obtain⟨h1,h2,h3,H⟩:=d
  obtain⟨H,I,p⟩:=QC Q h (DD hl).2 H
  have q1:=Ya q1
  have q2:=Ya q2
  subst q1;subst q2
  have m:=Ya m
  have w:=Yf w
  obtain⟨D,E,S,F,G⟩:=h.h.at hl
  obtain⟨C,O⟩:=WV h Y h1
  rw[J]at Z
  obtain⟨s1,s2⟩:=h3
  obtain⟨ss,M⟩:=σ
  refine Ztn (k:=r.κ k) (g:=r.γ k+q) (off:=off) (cn:=cn) (cnt:=cnt) (news:=Aj r news) u (by rw[Z];simp[ren]) ((A _ _ hi).elm _ he) ((A _ _ hi').elm _ he') (by rw[(A _ _ V).zer _ hz];rfl) (by omega) D E (by rw[F,m]) (by rw[hy];exact C) h2
   (by rw[G,B8,B8];exact s1) p ?_
  have U:=RG.updH Q h k ⟨q,true,(τ.H k).e,(τ.H k).sz,N⟩ rfl I
  have R:AA r k ⟨q,true,(τ.H k).e,(τ.H k).sz,N⟩={M (r.κ k)with cells:=(M (r.κ k)).cells.take (off*sz)++Aj r news++(M (r.κ k)).cells.drop (off*sz+(Aj r news).length) }:=by
   simp only at D E S F G
   simp only[AA,G,B8,Ep,D1,←Fu,s2,D,S,F,←E]
  simp only at R
  rw[R]at U
  refine oo (v:=.d (.int .i64 cnt)) (a:=b) (τ':=⟨τ.s,updH τ.H k ⟨q,true,(τ.H k).e,(τ.H k).sz,N⟩⟩) hf U (by simp[ren]) H
 ·rename_i f
  split at d
  case h_2=>exact d.elim
  rename_i x t ha ht hd
  have u:o.op=.call ⟨.builtin .clear,#[x],#[t]⟩:=by
   rw[ho]
   have C:c.args=#[x]:=CC (by simpa using ha)
   have O:c.argTypes=#[t]:=CC (by simpa using ht)
   cases c;simp only at f C O;subst f;subst C;subst O;rfl
  rw[u]at s
  have Z:=ops s (fun _ _ _ e=>by cases e) x (by simp[Op.operands,Call.operands])
  unfold pS at d
  split at d
  case h_2=>exact d.elim
  rename_i i hi
  split at d
  case h_2=>exact d.elim
  rename_i e sz he
  split at d
  case h_2=>exact d.elim
  rename_i j V w
  split at d
  case h_2=>exact d.elim
  rename_i z k q off cn N b hz J
  split at d
  case h_2=>exact d.elim
  rename_i hl m L
  obtain⟨⟨h1,h2⟩,H⟩:=d
  obtain⟨H,I,p⟩:=QC Q h (DD hl).2 H
  have m:=Ya m
  have w:=Yf w
  have L:=Ya L
  obtain⟨D,E,S,F,G⟩:=h.h.at hl
  have hfz:=IA (r:=r) ((A _ _ V).flt _ hz)
  rw[hfz]at p
  rw[J]at Z
  obtain⟨ss,M⟩:=σ
  refine ZpO (k:=r.κ k) (g:=r.γ k+q) (off:=off) (cn:=cn) u hd (by rw[Z];simp[ren]) ((A _ _ hi).elm _ he) ((A _ _ V).zer _ hz) L (by omega) D E (by rw[F,m]) (by rw[G,B8];exact h1) p ?_
  have U:=RG.updH Q h k ⟨q,true,(τ.H k).e,(τ.H k).sz,N⟩ rfl I
  have X:Aj r (List.replicate cn z).flatten=(List.replicate cn z).flatten:=IA (by
   refine Yk.2 fun q hq=>?_
   obtain⟨z',hz',W⟩:=N2.1 hq
   rw[(Sn.1 hz').2]at W
   exact Yk.1 ((A _ _ V).flt _ hz) q W)
  have R:AA r k ⟨q,true,(τ.H k).e,(τ.H k).sz,N⟩={M (r.κ k)with cells:=(M (r.κ k)).cells.take (off*sz)++(List.replicate cn z).flatten++(M (r.κ k)).cells.drop ((off+cn)*sz) }:=by
   simp only at D E S F G
   rw[←h2]
   simp only[AA,G,Fu,Ep,D1,X,D,S,F,←E]
  simp only at R
  rw[R]at U
  exact .of ⟨_,_,H,by rw[hd];exact U⟩
 ·exact Iy (nb Q A h s hf d)
theorem i1{a:Nat→Option (Nat×Nat)}:∀(ps:List (Nat×AV)) (z cs:List AV),(∀p∈ps,HB p.2=true)→B4 a z ps=some cs→B4 a (Aj r z) (ps.map fun p=>(p.1,ren r p.2))=some (Aj r cs)
 |[],z,cs,_,h=>by
  simp only[B4,Yg]at h
  subst h
  simp[B4]
 |(f,v)::ps,z,cs,d,h=>by
  simp only[B4]at h
  split at h
  ·rename_i off size vs b g
   split at h
   ·cases h
   ·rename_i e
    have c:=Mm (r:=r) g (Mx (d (f,v) (YM ..)))
    simp only[Y4,B4,b,c,B8]
    rw[Yj e]
    have:=i1 ps _ cs (fun p b=>d p (YH _ b)) h
    rw[←this]
    simp only[Fu,Ep,D1]
  ·cases h
theorem x1(d:BT o=true)(b:Ir P T l n r o a K τ):HU P T l n r o a K τ:=by
 unfold Ir at b
 split at b
 ·rename_i c;simp[BT,c]at d
 ·exact b
theorem Ztp(w:RenOk r l outs)(m:AX P T)(h:RG r l outs env τ σ)(k:BU env [] o.op=true)(u:Gh env o.dst=true)(c:Ir P T l n r o a K τ):B2 P l n B o (KA r l n outs B (D6 env o.dst) K) σ:=by
 unfold Ir at c
 split at c
 case h_2=>exact WI w m h k u c
 rename_i t len parts E
 split at c
 case h_2=>exact WI w m h k u c
 case h_3=>exact WI w m h k u c
 rename_i b
 have ops:∀x∈o.op.operands,ev σ.s x=ren r (ev τ.s x):=by
  unfold BU at k
  split at k
  ·rename_i e;rw[E]at e;cases e
  ·exact EZ h AU k
 unfold pN at c
 split at c
 case h_2=>exact c.elim
 rename_i d i J hi
 split at c
 case h_2=>exact c.elim
 rename_i e sz he
 split at c
 case h_2=>exact c.elim
 rename_i j L F v
 split at c
 case h_2=>exact c.elim
 rename_i z N
 split at c
 case h_2=>exact c.elim
 rename_i cs G f D
 split at c
 case h_2=>exact c.elim
 rename_i C
 have I:(parts.toList.map fun p=>(p.1,ev σ.s p.2))=(parts.toList.map fun p=>(p.1,ev τ.s p.2)).map fun p=>(p.1,ren r p.2):=by
  rw[Ha]
  refine ET fun p c=>?_
  rw[ops p.2 (by rw[E];simp only[Op.operands,Lm,YU];exact⟨p,c,rfl⟩)]
  rfl
 have q:o.dst=some d:=J
 rw[q]at u⊢
 have M:=J8 (x':=fun g=>.ref (l+1,d) g 0 (len+1)) w h u (fun g=>by simp[ren,w.own]) c
 obtain⟨s,H⟩:=σ
 exact lC E q ((m _ _ hi).elm _ he) (by have:=Yf F;omega) (Yf v) ((m _ _ L).zer _ N) (Ya G) (by
  rw[I]
  have:=i1 (r:=r) _ _ _ (fun p c=>Yk.1 D p c) f
  rw[IA (r:=r) (z:=(List.replicate (len+1) z).flatten) (Yk.2 fun x A=>by
   obtain⟨y,hy,A⟩:=N2.1 A
   rw[List.eq_of_mem_replicate hy]at A
   exact Yk.1 C x A)]at this
  exact this) (Mw M)
theorem xb(d:BT o=true)(c:Gt P T l n r o a K τ):Ir P T l n r o a K τ:=by
 unfold Gt at c
 split at c
 ·rename_i b;simp[BT,b]at d
 ·rename_i b;simp[BT,b]at d
 ·exact c
theorem Znp(f:RenOk r l outs)(h:RG r l outs env τ σ){K:St→AT→Prop}{d:Nat}(m:fresh d env=true){e:EK}{x x':Nat→AV}(o:∀g,x' (r.γ (1,d)+g)=ren r (x g))(b:Zj n d e x K τ a):
  kK l n d e x' (KA r l n outs B ((d,[])::env) K) σ:=by
 unfold Zj at b
 split at b
 ·rename_i k
  refine⟨Yf k,.of ⟨_,_,b,?_⟩⟩
  have j:=RG.updH f h (1,d) ⟨(τ.H (1,d)).g+1,true,e,0,[]⟩ rfl (.inl rfl)
  have c:=j.put0 m (v:=x ((τ.H (1,d)).g+1)) (y:=x' ((σ.H (l+1,d)).g+1)) (by rw[h.g,YB];exact o _)
  have i:AA r (1,d) ⟨(τ.H (1,d)).g+1,true,e,0,[]⟩=⟨(σ.H (l+1,d)).g+1,true,e,0,[]⟩:=by simp only[AA,Aj,h.g,YB]
  rw[i,f.own]at c
  exact c
 ·exact b.elim
theorem nc(w:RenOk r l outs)(O:AX P T)(h:RG r l outs env τ σ)(v:BU env [] o.op=true)(q:Gh env o.dst=true)(b:Gt P T l n r o a K τ):B2 P l n B o (KA r l n outs B (D6 env o.dst) K) σ:=by
 have ops:(∀c x y,o.op≠.pick c x y)→∀x∈o.op.operands,ev σ.s x=ren r (ev τ.s x):=fun F=>by
  unfold BU at v
  split at v
  ·rename_i e;exact absurd e (F _ _ _)
  ·exact EZ h AU v
 unfold Gt at b
 split at b
 ·rename_i t x j
  split at b
  case h_2=>exact b.elim
  rename_i d i z s hi m
  split at b
  case h_2=>exact b.elim
  rename_i u
  rw[s]at q⊢
  have U:=Znp (B:=B) (x':=fun g=>.ptr (l+1,d) g 0) w h q (fun g=>by simp[ren,w.own]) b
  obtain⟨ss,Q⟩:=σ
  have V:=Gc ((O _ _ hi).kin.trans (Ya u))
  have f:=ops (by rw[j];intro _ _ _ e;cases e) x (by rw[j];simp[Op.operands])
  exact ZmO j s V (by rw[f,m];simp[ren]) U
 ·rename_i x j
  split at b
  case h_2=>exact b.elim
  rename_i d k g s m
  split at b
  case h_2=>exact b.elim
  rename_i z p E hl he
  have f:=ops (by rw[j];intro _ _ _ e;cases e) x (by rw[j];simp[Op.operands])
  rw[m]at f
  obtain⟨A,C,J,L,M⟩:=h.h.at hl
  rw[s]at q⊢
  unfold uH at b
  split at b
  case h_2=>exact b.elim
  rename_i a1 a0 D
  obtain⟨H,G⟩:=b
  obtain⟨ss,Q⟩:=σ
  refine Zow (k:=r.κ k) (g:=r.γ k+g) (z:=z) (p:=p) j s (by rw[f];simp[ren]) A C (by rw[J];exact he) (Yf D) (fun R=>.of ⟨_,_,G (Eo R),h.put0 q (by simp[ren,Aj])⟩) (fun S=>?_)
  have N:=RG.updH w h k ⟨g,true,.s z (p+DR z p),(τ.H k).sz,(τ.H k).cells⟩ rfl (.inl (Ya E))
  have I:AA r k ⟨g,true,.s z (p+DR z p),(τ.H k).sz,(τ.H k).cells⟩={Q (r.κ k)with e:=.s z (p+DR z p) }:=by
   simp only at A C J L M
   simp only[AA,A,L,←M,←C]
  simp only at I
  rw[I]at N
  exact .of ⟨_,_,H (Y6 S),N.put0 q (by simp only[ren,Aj])⟩
 ·exact Ztp w O h v q b
end
end Go.Eng
