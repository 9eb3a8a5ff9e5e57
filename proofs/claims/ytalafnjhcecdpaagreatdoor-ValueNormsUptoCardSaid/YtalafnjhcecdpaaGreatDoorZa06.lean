import Derived.Test.YtalafnjhcecdpaaGreatDoorZa05
import Derived.Test.YtalafnjhcecdpaaGreatDoorZa00
namespace Go.Eng
set_option linter.all false
open Go Go.RowKit
def FW(cs:List AV):Prop:=∀x∈cs,(match x with|.d _=>true|_=>false)=true
section
variable {P:Program} {l n:Nat} {B:Base} {H H':Hp} {m m':Mu} {S S':Nat->Prop} {w w':World} {s:Nat->AV} {a:Act} {K:St->Prop} {o:Oper}
theorem Ok.lay(r:Ok (l+1) H m S w){k:Ad}(s:k.1<=l+1)(hl:(H k).live=true){off:Nat}{vs:List AV}{cs:Array Value}(p:C3 w S H m (l+1) vs cs)(A:0<vs.length)
  (n:off+vs.length<=(H k).cells.length) (j:k.1=l+1\/vs.all (AV.low k.1)=true):
  (m k).cap≠0/\∃C:Array Value,w.heap[(m k).b]?=some (.cells C (H k).e.ty (0,0))/\(m k).o+off+cs.toList.length<=C.size/\(∀v∈cs.toList,v.oneCell'=true)/\
   Ok (l+1) (updH H k {H k with cells:=(H k).cells.take off++vs++(H k).cells.drop (off+vs.length) }) m S (w.setRow (m k).b (C.toList.take ((m k).o+off)++cs.toList++C.toList.drop ((m k).o+off+cs.toList.length)).toArray)/\
   Ext (l+1) H m S w (updH H k {H k with cells:=(H k).cells.take off++vs++(H k).cells.drop (off+vs.length) }) m S (w.setRow (m k).b (C.toList.take ((m k).o+off)++cs.toList++C.toList.drop ((m k).o+off+cs.toList.length)).toArray):=by
 have f:(m k).cap≠0:=λe=>by have:=r.empty k s hl e;rw[this,Hd]at n;omega
 obtain⟨C,x,G,I,z⟩:=r.blk k s hl f;have d:cs.toList.length=vs.length:=by simp[p.1]
 have o:∀v∈cs.toList,v.oneCell'=true:=by
  intro v c;obtain⟨i,hi⟩:=YP.1 c;rw[YG]at hi;have u:i<vs.length:=by
   rw[p.1];rcases YL i cs.size with h|h
   ·exact h
   ·rw[FI h]at hi;cases hi
  exact(p.2 i _ v (Yd u) hi).1
 have t:(m k).o+off+cs.toList.length<=C.size:=by rw[d];omega
 have B:=r.write k s hl f ((H k).cells.take off++vs++(H k).cells.drop (off+vs.length))
   (C.toList.take ((m k).o+off)++cs.toList++C.toList.drop ((m k).o+off+cs.toList.length)).toArray
   (by simp[d];omega) (by simp;omega)
   (w.setRow (m k).b (C.toList.take ((m k).o+off)++cs.toList++C.toList.drop ((m k).o+off+cs.toList.length)).toArray)
   (λb=>by
    by_cases e:b=(m k).b
    ·subst e;rw[Ym rfl];exact setRow_heap w _ C _ _ _ x
    ·rw[Yk e];exact setRow_other w _ _ _ e)
   (by simp) rfl rfl rfl (λi y v hi c=>by
    have c:(C.toList.take ((m k).o+off)++cs.toList++C.toList.drop ((m k).o+off+cs.toList.length))[(m k).o+i]?=some v:=(by simpa using c);rw[d]at c;have q:C.toList.length=C.size:=(by simp);have g:(C.toList.take ((m k).o+off)).length=(m k).o+off:=(by rw[YD,q];omega);have a:((H k).cells.take off).length=off:=(by rw[YD];omega);rcases YL i off with h|h
    ·rw[DZ,Yw (by rw[a];omega),Y6,Ym h]at hi;rw[DZ,Yw (by rw[g];omega),Y6,Ym ae,YG]at c;exact z i y v hi c
    ·rcases YL i (off+vs.length)with E|E
     ·rw[Yw (by rw[Yt,a];omega),YK (by rw[a];omega),a]at hi;rw[Yw (by rw[Yt,g,d];omega),YK (by rw[g];omega),g,YG]at c;rw[show(m k).o+i-((m k).o+off)=i-off from by omega]at c;obtain⟨F,D⟩:=p.2 _ y v hi c;refine⟨F,?_⟩;rcases j with e|e
      ·rw[e];exact D
      ·exact D.low (Yu.1 e y (Yh hi))
     ·rw[YK (by rw[Yt,a];omega),YY,Yt,a]at hi;rw[YK (by rw[Yt,g,d];omega),YY,YG,Yt,g,d]at c;rw[show off+vs.length+(i-(off+vs.length))=i from by omega]at hi;rw[show(m k).o+off+vs.length+((m k).o+i-((m k).o+off+vs.length))=(m k).o+i from by omega]at c;exact z i y v hi c)
 exact⟨f,C,x,t,o,B.1,B.2⟩
theorem yY(C:List AV)(off:Nat):C.take off++[]++C.drop (off+([]:List AV).length)=C:=by simp
theorem UK(H:Hp)(k:Ad)(b:Blk)(h:b=H k):updH H k b=H:=by funext q;unfold updH;split<;>simp_all
theorem Zxf{x y:Operand}{t t' e:TypeId}{k:Ad}{g off cn sz cnt:Nat}{news:List AV}(ho:o.op=.call ⟨.builtin .copy,#[x,y],#[t,t']⟩)(hx:ev s x=.ref k g off cn)(he:elm P t=some (e,sz))(Z:elm P t'=some (e,sz))(hi:(zer P e).isSome=true)
  (hsz:sz≠0) (hg:g=(H k).g) (hl:(H k).live=true) (hs:(H k).sz=sz) (I:JK H sz (ev s y)=some (cnt,news)) (hle:cnt<=cn) (E:off*sz+news.length<=(H k).cells.length)
  (A:k.1=l+1\/news.all (AV.low k.1)=true) (W:CM n o.dst K ⟨s,updH H k {H k with cells:=(H k).cells.take (off*sz)++news++(H k).cells.drop (off*sz+news.length) }⟩ (.d (.int .i64 cnt))):CG P l n B o K ⟨s,H⟩:=by
 intro a w hR Q;obtain⟨m,S,X,hn,r,M,u⟩:=hR.un;obtain⟨hu,hse⟩:=Fj he;obtain⟨hu',_⟩:=Fj Z;obtain⟨z,hz⟩:=FH.1 hi;obtain⟨it,zv,j,hz0,hzr,_⟩:=JZ (w:=w) (S:=S) (H:=H) (m:=m) (l:=l+1) hz;have f:it.size=sz:=by rw[<-hse];simp[Program.cellsOf,j]
 obtain⟨C,c,q,D⟩:=qN hu' hsz I X (DE M y);have hp:=DE M x;rw[hx]at hp;generalize hpv:a.eval x=pv at hp;have fin:∀(w':World) (H':Hp),Ok (l+1) H' m S w'->Ext (l+1) H m S w H' m S w'->CM n o.dst K ⟨s,H'⟩ (.d (.int .i64 cnt))->(Builtin.copy_ #[t,t'] o.type #[pv,a.eval y]).run P w=.ok (goInt cnt) w'->
   o.wp P a w (λa' w'=>∃σ',K σ'/\R l n B σ' a' w') Q:=λw' H' N O b G=>by
  have p:(execOp a.eval o).run P w=.ok (.value (goInt cnt)) w':=by simp[execOp,ho,resolve,invoke,Go.builtin,hpv,G]
  unfold CM at b;refine Ee p ?_;cases hd:o.dst with
  |none=>
   rw[hd]at b;exact⟨_,b,R.keep N hn r M u O⟩
  |some d=>
   rw[hd]at b;exact⟨_,b.2,R.step N hn r M u O b.1 (.d _ _ (.int _ _))⟩
 cases hp with
 |refD k g off cn v b hg' Y h1=>rw[Y hg]at hl;cases hl
 |refL k off cn oa b hl' hn' ha=>
  have i:Nat.min cnt cn=cnt:=FJ hle;rcases Se news.length with T|F
  ·have hn0:news=[]:=Jt T;have V:C=#[]:=R0 (by rw[<-q.1,T]);have hcnt:cnt=0:=by
    rw[T]at D;rcases Nat.mul_eq_zero.1 D.symm with h|h
    ·exact h
    grind
   subst hn0;rw[yY,UK H k _ rfl]at W;refine fin w H X (Ext.refl _ _ _ _ _) W ?_;have L:=c.cells;rw[V]at L;have U:=c.len w;cases oa<;>simp[Builtin.copy_,run_underlying hu,U,sizeOf,typeInfo,j,f,i,L,storeCells]
  ·obtain⟨hcap,C0,b1,b2,b3,N,O⟩:=X.lay b hl q F E A;have hc1:0<cnt:=(by grind);have hoa:=ha ae;subst hoa;refine fin _ _ N O W ?_;have J:=run_storeCells_at (P:=P) (m k).b ((m k).o+off*sz) (H k).e.ty C.toList 0 C0 w b1 ae b3;simp only[E2]at J;have L:=c.cells;have U:=c.len w;rw[hs];simp[Builtin.copy_,run_underlying hu,U,sizeOf,typeInfo,j,f,i,L,J]
theorem Zub{x:Operand}{t e:TypeId}{k:Ad}{g off cn sz:Nat}{z:List AV}(ho:o.op=.call ⟨.builtin .clear,#[x],#[t]⟩)(hd:o.dst=none)(hx:ev s x=.ref k g off cn)(he:elm P t=some (e,sz))(hz:zer P e=some z)(j:z.length=sz)
  (hsz:sz≠0) (hg:g=(H k).g) (hl:(H k).live=true) (hs:(H k).sz=sz) (d:(off+cn)*sz<=(H k).cells.length) (p:k.1=l+1\/z.all (AV.low k.1)=true)
  (J:K ⟨s,updH H k {H k with cells:=(H k).cells.take (off*sz)++(List.replicate cn z).flatten++(H k).cells.drop ((off+cn)*sz) }⟩):CG P l n B o K ⟨s,H⟩:=by
 intro a w hR Q;obtain⟨m,S,Z,hn,M,hS,N⟩:=hR.un;obtain⟨hu,hse⟩:=Fj he;have C:z≠[]:=by rintro rfl;simp at j;omega
 obtain⟨it,E,O,X,D,_⟩:=JZ (w:=w) (S:=S) (H:=H) (m:=m) (l:=l+1) hz;have U:=DE hS x;rw[hx]at U;generalize V:a.eval x=pv at U;have fin:∀(w':World) (H':Hp),Ok (l+1) H' m S w'->Ext (l+1) H m S w H' m S w'->K ⟨s,H'⟩->(Builtin.clear_ #[t] o.type #[pv]).run P w=.ok (.tuple #[]) w'->
   o.wp P a w (λa' w'=>∃σ',K σ'/\R l n B σ' a' w') Q:=λw' H' G I F y=>by
  have i:(execOp a.eval o).run P w=.ok (.value (.tuple #[])) w':=by simp[execOp,ho,resolve,invoke,Go.builtin,V,y]
  refine Ee i ?_;rw[hd];exact⟨_,F,R.keep G hn M hS N I⟩
 cases U with
 |refD k g off cn v F hg' L h1=>rw[L hg]at hl;cases hl
 |refL k off cn oa F hl' hn' ha=>
  rcases Se cn with h0|r
  ·subst h0;have e1:(H k).cells.take (off*sz)++(List.replicate 0 z).flatten++(H k).cells.drop ((off+0)*sz)=(H k).cells:=(by simp);rw[e1,UK H k _ rfl]at J;refine fin w H Z (Ext.refl _ _ _ _ _) J ?_;cases oa<;>simp[Builtin.clear_,run_underlying hu]
  ·obtain⟨g1,g2⟩:=tz C D cn cn (Yf _);have b:((List.replicate cn z).flatten).length=cn*sz:=(by simp[j]);have Y:E.cells.size=z.length:=D.1.symm;have hr:C3 w S H m (l+1) (List.replicate cn z).flatten (Builtin.zeroCells E.cells cn):=(by have e:Builtin.zeroCells E.cells cn=madeCells E.cells (cn*z.length):=(by unfold Builtin.zeroCells madeCells;rw[Y]);rw[e];exact⟨by rw[g1,b,j],g2⟩);have f:0<cn*sz:=Sj r ae;rw[Y1]at d;obtain⟨hcap,C0,b1,b2,b3,G,I⟩:=Z.lay F hl hr (by rw[b];exact f) (by rw[b];exact d) (p.imp id λh=>by refine Yu.2 λq hq=>?_;obtain⟨z',W,u⟩:=R6.1 hq;rw[(Xt.1 W).2]at u;exact Yu.1 h q u);have T:=ha ae;subst T;rw[b,<-Y1]at G I;refine fin _ _ G I J ?_;have A:=run_storeCells_at (P:=P) (m k).b ((m k).o+off*sz) (H k).e.ty (Builtin.zeroCells E.cells cn).toList 0 C0 w b1 ae b3;simp only[E2]at A;rw[hs];obtain⟨cn',rfl⟩:∃c,cn=c+1:=⟨cn-1,ae⟩;simp[Builtin.clear_,run_underlying hu,zeroValue,typeInfo,O,X,A]
theorem rj{L I:Nat}{k:Ad}{off c:Nat}{es:List (List D)}(N:Ok (l+1) H m S w)(R:k.1<=l+1)(hl:(H k).live=true)(o:es.length=c)(Z:(H k).sz≠0)(q:∀e∈es,e.length=(H k).sz)
  (E:(off+c)*(H k).sz<=(H k).cells.length) (M:((H k).cells.drop (off*(H k).sz)).take (c*(H k).sz)=es.flatten.map .d) {v:Value} (hx:RepA w S H m L (.ref k (H k).g off c) v):
  RepA w (λb=>S b\/(b=(m k).b/\(m k).cap≠0)) H' m' I (.d (.list es)) v:=by
 generalize O:(H k).g=g at hx;cases hx with
 |refD _ _ _ _ _ y P s o=>rw[s O.symm]at hl;cases hl
 |refL _ _ _ U y T G F=>
  by_cases A:c=0
  ·subst A;have:es=[]:=Jt o;subst this;cases U with
   |none=>
    have e:(m k).cap-off=0:=by
     rcases YL off (m k).cap with h|h
     ·have:=F h;cases this
     ·omega
    rw[e];exact .d _ _ .nil
   |some ad=>exact .d _ _ (.list [] ad 0 _ (λ_ _=>.bool true) (λh=>absurd rfl h) (Cn _) (λ_ h=>by cases h) (λi j e x h=>by simp at h) (λi j e x h=>by simp at h))
  ·have B:=F ae;subst B;obtain⟨r,C,J,X,Y,K⟩:=N.row (k:=k) R hl (by intro e;rw[e,Y1]at E;have:=Sj (show 0<c by omega) (show 0<(H k).sz by omega);simp at E;omega);have f:∀(i j:Nat) (e:List D) (d:D),es[i]?=some e->e[j]?=some d->∃u,C[(m k).o+((off+i)*(H k).sz+j)]?=some u/\RepD w S d u:=by
    intro i j e d hi a;have t:i<c:=by
     rw[<-o];rcases YL i es.length with h|h
     ·exact h
     ·rw[YT h]at hi;cases hi
    have Q:j<(H k).sz:=by
     rw[<-q e (Yh hi)];rcases YL j e.length with h|h
     ·exact h
     ·rw[YT h]at a;cases a
    have n:=eX es q i j e d hi a;have z:i*(H k).sz+j<c*(H k).sz:=(by have:(i+1)*(H k).sz<=c*(H k).sz:=Y8 _ t;rw[Y1]at this;omega);have p:(H k).cells[(off+i)*(H k).sz+j]?=some (.d d):=(by have:=congrArg (λl=>l[i*(H k).sz+j]?) M;simp only[Y6,Ym z,YY,YR,n,Y7]at this;rw[<-this,Y1,YM]);obtain⟨u,V,_,W⟩:=K _ _ p;cases W with
    |d _ _ s=>exact⟨u,V,s⟩
   have:=RepD.list (w:=w) (S:=λb=>S b\/(b=(m k).b/\(m k).cap≠0)) es ⟨(m k).b,(m k).o+off*(H k).sz,none⟩ (H k).sz ((m k).cap-off) (λi j=>(C[(m k).o+((off+i)*(H k).sz+j)]?).getD undef)
    (λ_=>.inr ⟨rfl,r⟩) ae q
    (λi j e d hi a=>by obtain⟨v,n,_⟩:=f i j e d hi a;rw[Addr.add_lit,JY J];rw[show(m k).o+off*(H k).sz+(i*(H k).sz+j)=(m k).o+((off+i)*(H k).sz+j)from by rw[Y1];omega,n];rfl)
    (λi j e d hi a=>by obtain⟨v,n,p⟩:=f i j e d hi a;rw[n];exact p.mono (λ_ h=>.inl h) (λ_ _=>rfl))
   rw[o]at this;exact .d _ _ this
def JH:List (Nat×List (List D))->(Nat->AV)->Nat->AV
 |[],s=>s
 |(j,a)::r,s=>JH r (upd s j (.d (.list a)))
def I5:List (Ad×Nat×List (List D))->Hp->Hp
 |[],H=>H
 |(k,i,a)::r,H=>I5 r (updH H k ⟨(H k).g,(H k).live,(H k).e,(H k).sz,(H k).cells.set i (.d (.list a))⟩)
theorem q8{L:Nat}:∀(c:List (Nat×List (List D))) {s:Nat->AV},C5 L s H m S a w->(∀p∈c,RepA w S H m L (.d (.list p.2)) (a.tmps.getD p.1 undef))->C5 L (JH c s) H m S a w
 |[],s,h,_=>h
 |(j,d)::r,s,h,b=>q8 r (λi=>by
   simp only[upd];by_cases hi:i=j
   ·subst hi;rw[Ym rfl];exact b (i,d) (YJ ..)
   ·rw[Yk hi];exact h i) (λp e=>b p (YH _ e))
theorem Ok.cell{L:Nat}(h:Ok L H m S w)(k:Ad)(g:k.1<=L)(hl:(H k).live=true)(i:Nat)(x:AV)(hx:∀C:Array Value,w.heap[(m k).b]?=some (.cells C (H k).e.ty (0,0))->∀v,C[(m k).o+i]?=some v->(H k).cells[i]?≠none->RepA w S H m k.1 x v):
  Ok L (updH H k ⟨(H k).g,(H k).live,(H k).e,(H k).sz,(H k).cells.set i x⟩) m S w/\Ext L H m S w (updH H k ⟨(H k).g,(H k).live,(H k).e,(H k).sz,(H k).cells.set i x⟩) m S w:=by
 by_cases a:(m k).cap=0
 ·have o:=h.empty k g hl a;have e:(⟨(H k).g,(H k).live,(H k).e,(H k).sz,(H k).cells.set i x⟩:Blk)=H k:=by rw[o];simp;rw[<-o]
  rw[e,UK H k _ rfl];exact⟨h,Ext.refl _ _ _ _ _⟩
 ·obtain⟨C,p,q,r,n⟩:=h.blk k g hl a;have:=h.write k g hl a ((H k).cells.set i x) C q (by simpa using r) w (λb=>by split<;>simp_all) rfl rfl rfl rfl (λj y v c l=>by
   rw[List.getElem?_set]at c;split at c
   ·rename_i f;subst f;split at c
    ·rename_i d;simp only[Yn]at c;subst c;exact⟨(n i _ v (Yd d) l).1,hx C p v l (by rw[Yd d];simp)⟩
    ·cases c
   ·exact n j y v c l)
  exact this
theorem tL{L:Nat}:∀(cs:List (Ad×Nat×List (List D))) {H:Hp},Ok L H m S w->(∀p∈cs,p.1.1<=L/\(H p.1).live=true/\∀C:Array Value,w.heap[(m p.1).b]?=some (.cells C (H p.1).e.ty (0,0))->∀v,C[(m p.1).o+p.2.1]?=some v->(H p.1).cells[p.2.1]?≠none->∀H' f,RepA w S H' m f (.d (.list p.2.2)) v)->
  Ok L (I5 cs H) m S w/\Ext L H m S w (I5 cs H) m S w
 |[],H,h,_=>⟨h,Ext.refl _ _ _ _ _⟩
 |(k,i,g)::r,H,h,a=>by
  obtain⟨x,y,z⟩:=a _ (YJ ..);obtain⟨j,l⟩:=h.cell k x y i (.d (.list g)) (λC q v u s=>z C q v u s _ _);obtain⟨n,o⟩:=tL r j (λp t=>by
   obtain⟨b,c,d⟩:=a p (YH _ t);by_cases e:p.1=k
   ·rw[e]at b c d⊢;rw[AS];grind
   ·rw[AF _ _ e];exact⟨b,c,d⟩)
  exact⟨n,l.trans o⟩
theorem R.freeze{a:Act}(h:R l n B ⟨s,H⟩ a w){k:Ad}(t:k.1<=l+1)(hl:(H k).live=true)(A:(H k).sz≠0)(x:List (Nat×List (List D)))(cs:List (Ad×Nat×List (List D)))
  (r:∀p∈x,∃off c,s p.1=.ref k (H k).g off c/\p.2.length=c/\(∀e∈p.2,e.length=(H k).sz)/\(off+c)*(H k).sz<=(H k).cells.length/\((H k).cells.drop (off*(H k).sz)).take (c*(H k).sz)=p.2.flatten.map .d)
  (o:∀p∈cs,p.1≠k/\p.1.1<=l+1/\(H p.1).live=true/\∃off c,(H p.1).cells[p.2.1]?=some (.ref k (H k).g off c)/\p.2.2.length=c/\(∀e∈p.2.2,e.length=(H k).sz)/\(off+c)*(H k).sz<=(H k).cells.length/\
   ((H k).cells.drop (off*(H k).sz)).take (c*(H k).sz)=p.2.2.flatten.map .d):R l n B ⟨JH x s,I5 cs (updH H k {H k with live:=false })⟩ a w:=by
 obtain⟨m,S,f,M,q,y,hex⟩:=h.un;obtain⟨O,E⟩:=f.kill k t hl;have i:=y.ext E;have j:=q8 x i (λp u=>by obtain⟨off,c,b,d,J,K,L⟩:=r p u;have hx:=y p.1;rw[b]at hx;exact rj f t hl d A J K L hx);obtain⟨P,F⟩:=tL cs O (λp u=>by
  obtain⟨e0,b,d,off,c,f1,f2,f3,f4,f5⟩:=o p u;rw[AF _ _ e0];refine⟨b,d,λC z v N _ H' T=>?_⟩;have g:(m p.1).cap≠0:=λe=>by have:=f.empty p.1 b d e;grind
  obtain⟨Q,G,U,V,I⟩:=f.blk p.1 b d g;rw[G]at z;cases z;exact rj f t hl f2 A f3 f4 f5 (I _ _ v f1 N).2)
 exact⟨m,_,P,M,q,j.ext F,(hex.trans (E.mono ae)).trans (F.mono ae)⟩
def FC(k k':Ad)(g a:Nat):AV->AV
 |.ref q h off c=>match Nat.beq q.1 k.1&&Nat.beq q.2 k.2&&Nat.beq h g with|true=>.ref k' a off c|false=>.ref q h off c
 |.mp q h=>match Nat.beq q.1 k.1&&Nat.beq q.2 k.2&&Nat.beq h g with|true=>.mp k' a|false=>.mp q h
 |x=>x
theorem fq{k k' q:Ad}{g a h:Nat}:FC k k' g a (.mp q h)=if q=k/\h=g then .mp k' a else .mp q h:=by
 obtain⟨i,j⟩:=q;obtain⟨e,f⟩:=k;simp only[FC];split
 ·rename_i he;simp only[Yb]at he;have a1:=Ye he.1.1;have d:=Ye he.1.2;have a3:=Ye he.2;grind
 ·rename_i he;rw[Yk];rintro⟨b,c⟩;cases b;simp[c]at he
theorem fb{k k' q:Ad}{g a h off c:Nat}:FC k k' g a (.ref q h off c)=if q=k/\h=g then .ref k' a off c else .ref q h off c:=by
 obtain⟨j,l⟩:=q;obtain⟨f,i⟩:=k;simp only[FC];split
 ·rename_i he;simp only[Yb]at he;have a1:=Ye he.1.1;have e:=Ye he.1.2;have a3:=Ye he.2;grind
 ·rename_i he;rw[Yk];rintro⟨b,d⟩;cases b;simp[d]at he
theorem R.handout{act:Act}(h:R l n B ⟨s,H⟩ act w){k k':Ad}(hk:k.1=l+1)(hk':k'.1<=l)(hl:(H k).live=true)(M:FW (H k).cells){s':Nat->AV}
  (hs:∀j,s' j=s j\/(∃off c,s j=.ref k (H k).g off c/\s' j=.ref k' ((H k').g+1) off c)\/(s j=.mp k (H k).g/\s' j=.mp k' ((H k').g+1))):R l n B ⟨s',updH (updH H k {H k with live:=false }) k' {H k with g:=(H k').g+1 }⟩ act w:=by
 obtain⟨m,S,r,hn,X,hS,hex⟩:=h.un;have Y:k≠k':=by rintro rfl;omega
 let J:=updH (updH H k {H k with live:=false }) k' {H k with g:=(H k').g+1 };let m2:=Bb m k' (m k);have K:J k'={H k with g:=(H k').g+1 }:=AS _ _ _;have e2:J k={H k with live:=false }:=by show updH _ _ _ _=_;rw[AF _ _ Y,AS]
 have L:∀q,q≠k->q≠k'->J q=H q:=λq p b=>by show updH _ _ _ _=_;rw[AF _ _ b,AF _ _ p]
 have f1:m2 k'=m k:=A3 _ _ _;have f2:∀q,q≠k'->m2 q=m q:=λq h=>AZ _ _ h;have F:Ext (l+1) H m S w J m2 S w:=by
  refine⟨λ_ h=>h,λ_ _=>rfl,λq f=>?_,λq f Z a=>?_,rfl,rfl,rfl,Yf _⟩
  ·by_cases p:q=k'
   ·grind
   ·by_cases b:q=k
    ·grind
    grind
  ·by_cases p:q=k'
   ·grind
   ·by_cases b:q=k
    ·grind
    grind
 have src:∀q:Ad,(J q).live=true->(q=k'/\True)\/(q≠k/\q≠k'/\(H q).live=true):=λq f=>by
  by_cases p:q=k'
  ·grind
  ·by_cases b:q=k
   ·grind
   grind
 have V:Ok (l+1) J m2 S w:=by
  refine⟨r.sub,λq f a o=>?_,λq f a o=>?_,λq A f I a G o z heq=>?_,λq f a o=>?_,⟨λq f a=>?_,λq f a he=>?_,λq A f I a G he y heq=>?_⟩⟩
  ·rcases src q a with⟨rfl,_⟩|⟨p,b,u⟩
   ·rw[f1]at o;rw[K];exact r.empty k ae hl o
   ·rw[f2 q b]at o;rw[L q p b];exact r.empty q f u o
  ·rcases src q a with⟨rfl,_⟩|⟨p,b,u⟩
   ·rw[f1]at o⊢;exact r.fresh k ae hl o
   ·rw[f2 q b]at o⊢;exact r.fresh q f u o
  ·rcases src q a with⟨rfl,_⟩|⟨p,b,u⟩<;>rcases src A G with⟨rfl,_⟩|⟨D,t,E⟩
   ·rfl
   ·rw[f1]at o heq;rw[f2 A t]at z heq;exact absurd (r.inj k A ae I hl E o z heq) (Ne.symm D)
   ·rw[f1]at z heq;rw[f2 q b]at o heq;exact absurd (r.inj q k f ae u hl o z heq) p
   ·rw[f2 q b]at o heq;rw[f2 A t]at z heq;exact r.inj q A f I u E o z heq
  ·rcases src q a with⟨rfl,_⟩|⟨p,b,u⟩
   ·rw[f1]at o;obtain⟨C,Q,T,U,N⟩:=r.blk k ae hl o;rw[K,f1];refine⟨C,Q,T,U,λi x v hi P=>⟨(N i x v hi P).1,?_⟩⟩;have hx:=(N i x v hi P).2;have hf:=M x (Yh hi);cases x with
    |d x=>cases hx with|d _ _ W=>exact .d _ _ W
    |_=>cases hf
   ·rw[f2 q b]at o;obtain⟨C,Q,T,U,N⟩:=r.blk q f u o;rw[L q p b,f2 q b];exact⟨C,Q,T,U,λi x v hi P=>⟨(N i x v hi P).1,(N i x v hi P).2.ext F f⟩⟩
  ·rcases src q a with⟨rfl,_⟩|⟨p,b,u⟩
   ·rw[f1,K];exact r.mp.o k ae hl
   ·rw[f2 q b,L q p b];exact r.mp.o q f u
  ·rcases src q a with⟨rfl,_⟩|⟨p,b,u⟩
   ·rw[f1];rw[K]at he;exact r.mp.c k ae hl he
   ·rw[f2 q b];rw[L q p b]at he;exact r.mp.c q f u he
  ·rcases src q a with⟨rfl,_⟩|⟨p,b,u⟩<;>rcases src A G with⟨rfl,_⟩|⟨D,t,E⟩
   ·rfl
   ·rw[f1,f2 A t]at heq;rw[K]at he;rw[L A D t]at y;exact absurd (r.mp.i k A ae I hl E he y heq) (Ne.symm D)
   ·rw[f1,f2 q b]at heq;rw[K]at y;rw[L q p b]at he;exact absurd (r.mp.i q k f ae u hl he y heq) p
   ·rw[f2 q b,f2 A t]at heq;rw[L q p b]at he;rw[L A D t]at y;exact r.mp.i q A f I u E he y heq
 refine⟨m2,S,V,hn,X,λi=>?_,hex.trans (F.mono ae)⟩;show RepA w S J m2 (l+1) (s' i) _;have hx:=hS i;generalize act.tmps.getD i Go.undef=v at hx⊢;rcases hs i with e|⟨off,c,e,e'⟩|⟨e,e'⟩
 ·rw[e];exact hx.ext F (Yf _)
 rotate_left
 ·rw[e'];rw[e]at hx;obtain⟨_,rfl⟩:=ff hx rfl hl;have:=RepA.mpL (w:=w) (S:=S) (H:=J) (m:=m2) (l:=l+1) k' ae (by rw[K];exact hl);grind
 ·rw[e'];rw[e]at hx;generalize Z:(H k).g=g at hx;cases hx with
  |refD _ _ _ _ _ f hg' W p=>rw[W Z.symm]at hl;cases hl
  |refL _ _ _ oa f a O ha=>
   have:=RepA.refL (w:=w) (S:=S) (H:=J) (m:=m2) (l:=l+1) k' off c oa ae (by rw[K];exact hl) (by rw[f1];exact O) (λh=>by rw[f1]at h⊢;rw[K];exact ha h);grind
theorem Ok.rekey(j:Ok (l+1) H m S w){k k':Ad}(U:k.1<=l+1)(Q:k'.1<=l+1)(N:k≠k')(hl:(H k).live=true)(D:FW (H k).cells):
  Ok (l+1) (updH (updH H k {H k with live:=false }) k' {H k with g:=(H k').g+1 }) (Bb m k' (m k)) S w/\Ext (l+1) H m S w (updH (updH H k {H k with live:=false }) k' {H k with g:=(H k').g+1 }) (Bb m k' (m k)) S w:=by
 let E:=updH (updH H k {H k with live:=false }) k' {H k with g:=(H k').g+1 };let m2:=Bb m k' (m k);have F:E k'={H k with g:=(H k').g+1 }:=AS _ _ _;have R:E k={H k with live:=false }:=by show updH _ _ _ _=_;rw[AF _ _ N,AS]
 have A:∀q,q≠k->q≠k'->E q=H q:=λq e b=>by show updH _ _ _ _=_;rw[AF _ _ b,AF _ _ e]
 have f1:m2 k'=m k:=A3 _ _ _;have f2:∀q,q≠k'->m2 q=m q:=λq h=>AZ _ _ h;have B:Ext (l+1) H m S w E m2 S w:=by
  refine⟨λ_ h=>h,λ_ _=>rfl,λq f=>?_,λq f T a=>?_,rfl,rfl,rfl,Yf _⟩
  ·by_cases e:q=k'
   ·grind
   ·by_cases b:q=k
    ·grind
    grind
  ·by_cases e:q=k'
   ·grind
   ·by_cases b:q=k
    ·grind
    grind
 have src:∀q:Ad,(E q).live=true->(q=k'/\True)\/(q≠k/\q≠k'/\(H q).live=true):=λq f=>by
  by_cases e:q=k'
  ·grind
  ·by_cases b:q=k
   ·grind
   grind
 have M:Ok (l+1) E m2 S w:=by
  refine⟨j.sub,λq f a c=>?_,λq f a c=>?_,λq s f z a y c r heq=>?_,λq f a c=>?_,⟨λq f a=>?_,λq f a he=>?_,λq s f z a y he p heq=>?_⟩⟩
  ·rcases src q a with⟨rfl,_⟩|⟨e,b,o⟩
   ·rw[f1]at c;rw[F];exact j.empty k ae hl c
   ·rw[f2 q b]at c;rw[A q e b];exact j.empty q f o c
  ·rcases src q a with⟨rfl,_⟩|⟨e,b,o⟩
   ·rw[f1]at c⊢;exact j.fresh k ae hl c
   ·rw[f2 q b]at c⊢;exact j.fresh q f o c
  ·rcases src q a with⟨rfl,_⟩|⟨e,b,o⟩<;>rcases src s y with⟨rfl,_⟩|⟨t,n,u⟩
   ·rfl
   ·rw[f1]at c heq;rw[f2 s n]at r heq;exact absurd (j.inj k s ae z hl u c r heq) (Ne.symm t)
   ·rw[f1]at r heq;rw[f2 q b]at c heq;exact absurd (j.inj q k f ae o hl c r heq) e
   ·rw[f2 q b]at c heq;rw[f2 s n]at r heq;exact j.inj q s f z o u c r heq
  ·rcases src q a with⟨rfl,_⟩|⟨e,b,o⟩
   ·rw[f1]at c;obtain⟨C,J,K,L,G⟩:=j.blk k ae hl c;rw[F,f1];refine⟨C,J,K,L,λi x v hi I=>⟨(G i x v hi I).1,?_⟩⟩;have hx:=(G i x v hi I).2;have P:=D x (Yh hi);cases x with
    |d x=>cases hx with|d _ _ O=>exact .d _ _ O
    |_=>cases P
   ·rw[f2 q b]at c;obtain⟨C,J,K,L,G⟩:=j.blk q f o c;rw[A q e b,f2 q b];exact⟨C,J,K,L,λi x v hi I=>⟨(G i x v hi I).1,(G i x v hi I).2.ext B f⟩⟩
  ·rcases src q a with⟨rfl,_⟩|⟨e,b,o⟩
   ·rw[f1,F];exact j.mp.o k ae hl
   ·rw[f2 q b,A q e b];exact j.mp.o q f o
  ·rcases src q a with⟨rfl,_⟩|⟨e,b,o⟩
   ·rw[f1];rw[F]at he;exact j.mp.c k ae hl he
   ·rw[f2 q b];rw[A q e b]at he;exact j.mp.c q f o he
  ·rcases src q a with⟨rfl,_⟩|⟨e,b,o⟩<;>rcases src s y with⟨rfl,_⟩|⟨t,n,u⟩
   ·rfl
   ·rw[f1,f2 s n]at heq;rw[F]at he;rw[A s t n]at p;exact absurd (j.mp.i k s ae z hl u he p heq) (Ne.symm t)
   ·rw[f1,f2 q b]at heq;rw[F]at p;rw[A q e b]at he;exact absurd (j.mp.i q k f ae o hl he p heq) e
   ·rw[f2 q b,f2 s n]at heq;rw[A q e b]at he;rw[A s t n]at p;exact j.mp.i q s f z o u he p heq
 exact⟨M,B⟩
theorem R.rename{act:Act}(h:R l n B ⟨s,H⟩ act w){k k' q:Ad}(hk:k.1=l+1)(T:k'.1<=l+1)(E:q.1=l+1)(D:k≠k')(F:q≠k)(o:q≠k')(hl:(H k).live=true)(d:(H q).live=true)(r:FW (H k).cells)
  {i off c:Nat} (z:(H q).cells[i]?=some (.ref k (H k).g off c)) {s':Nat->AV}
  (hs:∀j,s' j=s j\/(∃off c,s j=.ref k (H k).g off c/\s' j=.ref k' ((H k').g+1) off c)\/(s j=.mp k (H k).g/\s' j=.mp k' ((H k').g+1))):
  R l n B ⟨s',updH (updH (updH H k {H k with live:=false }) k' {H k with g:=(H k').g+1 }) q ⟨(H q).g,true,(H q).e,(H q).sz,(H q).cells.set i (.ref k' ((H k').g+1) off c)⟩⟩ act w:=by
 obtain⟨m,S,x,V,A,M,hex⟩:=h.un;obtain⟨y,f⟩:=x.rekey ae ae D hl r;have t:(updH (updH H k {H k with live:=false }) k' {H k with g:=(H k').g+1 }) k'={H k with g:=(H k').g+1 }:=AS _ _ _;have u:(updH (updH H k {H k with live:=false }) k' {H k with g:=(H k').g+1 }) q=H q:=by rw[AF _ _ o,AF _ _ F]
 have f1:Bb m k' (m k) k'=m k:=A3 _ _ _;have f2:Bb m k' (m k) q=m q:=AZ _ _ o;have ref:∀{L off c v},L<=l+1->RepA w S H m L (.ref k (H k).g off c) v->RepA w S (updH (updH H k {H k with live:=false }) k' {H k with g:=(H k').g+1 }) (Bb m k' (m k)) (l+1) (.ref k' ((H k').g+1) off c) v:=fun {L off c v} hL hx=>by
  generalize P:(H k).g=g at hx;cases hx with
  |refD _ _ _ _ _ E Q O h1=>rw[O P.symm]at hl;cases hl
  |refL _ _ _ W E U b N=>
   have:=RepA.refL (w:=w) (S:=S) (H:=updH (updH H k {H k with live:=false }) k' {H k with g:=(H k').g+1 }) (m:=Bb m k' (m k)) (l:=l+1) k' off c W ae (by rw[t];exact hl) (by rw[f1];exact b) (λh=>by rw[f1]at h⊢;rw[t];exact N h);grind
 obtain⟨p,a⟩:=y.cell q ae (by rw[u];exact d) i (.ref k' ((H k').g+1) off c) (λC G v I _=>by
  have b:(m q).cap≠0:=λe=>by have:=x.empty q ae d e;rw[this]at z;simp at z
  obtain⟨X,J,Y,Z,K⟩:=x.blk q ae d b;rw[f2,u,J]at G;cases G;rw[f2]at I;have:=ref ae (K i _ v z I).2;rw[E];exact this)
 rw[u]at p a;rw[d]at p a;refine⟨Bb m k' (m k),S,p,V,A,λi=>?_,(hex.trans (f.mono ae)).trans (a.mono ae)⟩;show RepA w S _ _ (l+1) (s' i) _;have hx:=M i;generalize act.tmps.getD i Go.undef=v at hx⊢;rcases hs i with e|⟨off,c,e,e'⟩|⟨e,e'⟩
 ·rw[e];exact(hx.ext f (Yf _)).ext a (Yf _)
 ·rw[e'];rw[e]at hx;exact(ref (Yf _) hx).ext a (Yf _)
 ·rw[e'];rw[e]at hx;obtain⟨_,rfl⟩:=ff hx rfl hl;have:=RepA.mpL (w:=w) (S:=S) (H:=updH (updH H k {H k with live:=false }) k' {H k with g:=(H k').g+1 }) (m:=Bb m k' (m k)) (l:=l+1) k' ae (by rw[t];exact hl);rw[f1,t]at this;exact this.ext a (Yf _)
theorem R.trim{d:Act}(h:R l n B ⟨s,H⟩ d w){k:Ad}(o:k.1<=l+1)(hl:(H k).live=true)(c:Nat):R l n B ⟨s,updH H k ⟨(H k).g,(H k).live,(H k).e,(H k).sz,(H k).cells.take c⟩⟩ d w:=by
 obtain⟨m,S,f,u,i,t,hex⟩:=h.un;have key:Ok (l+1) (updH H k ⟨(H k).g,(H k).live,(H k).e,(H k).sz,(H k).cells.take c⟩) m S w/\Ext (l+1) H m S w (updH H k ⟨(H k).g,(H k).live,(H k).e,(H k).sz,(H k).cells.take c⟩) m S w:=by
  by_cases a:(m k).cap=0
  ·have p:=f.empty k o hl a;have e:(⟨(H k).g,(H k).live,(H k).e,(H k).sz,(H k).cells.take c⟩:Blk)=H k:=(by rw[p];simp;rw[<-p]);rw[e,UK H k _ rfl];exact⟨f,Ext.refl _ _ _ _ _⟩
  ·obtain⟨C,z,q,A,r⟩:=f.blk k o hl a;exact f.write k o hl a ((H k).cells.take c) C q (by rw[YD];omega) w (λb=>by split<;>simp_all) rfl rfl rfl rfl (λj y v g x=>by
    rw[Y6]at g;split at g
    ·exact r j y v g x
    ·cases g)
 exact⟨m,S,key.1,u,i,t.ext key.2,hex.trans (key.2.mono ae)⟩
theorem R.rebase{act:Act}(h:R l n B ⟨s,H⟩ act w){k:Ad}(b:k.1<=l+1)(hl:(H k).live=true){j off c:Nat}(P:s j=.ref k (H k).g off c)(F:off*(H k).sz<=(H k).cells.length):
  R l n B ⟨upd s j (.ref k ((H k).g+1) 0 c),updH H k ⟨(H k).g+1,true,.t (H k).e.ty,(H k).sz,(H k).cells.drop (off*(H k).sz)⟩⟩ act w:=by
 obtain⟨m,S,d,T,q,D,hex⟩:=h.un;have hx:=D j;rw[P]at hx;generalize X:act.tmps.getD j Go.undef=v at hx;generalize N:(H k).g=g at hx;cases hx with
 |refD _ _ _ _ _ V O p Z=>rw[p N.symm]at hl;cases hl
 |refL _ _ _ Y V Q E L=>
  have fin:∀(M:MB),M.cap=(m k).cap-off->(M.cap≠0->M.b=(m k).b/\M.o=(m k).o+off*(H k).sz)->(Ok (l+1) (updH H k ⟨(H k).g+1,true,.t (H k).e.ty,(H k).sz,(H k).cells.drop (off*(H k).sz)⟩) (Bb m k M) S w/\Ext (l+1) H m S w (updH H k ⟨(H k).g+1,true,.t (H k).e.ty,(H k).sz,(H k).cells.drop (off*(H k).sz)⟩) (Bb m k M) S w)->
    R l n B ⟨upd s j (.ref k ((H k).g+1) 0 c),updH H k ⟨(H k).g+1,true,.t (H k).e.ty,(H k).sz,(H k).cells.drop (off*(H k).sz)⟩⟩ act w:=λM A o a=>by
   refine⟨_,S,a.1,T,q,λi=>?_,hex.trans (a.2.mono ae)⟩;show RepA w S _ _ (l+1) (upd s j (.ref k ((H k).g+1) 0 c) i) _;by_cases hi:i=j
   ·subst hi;rw[X];have:=RepA.refL (w:=w) (S:=S) (H:=updH H k ⟨(H k).g+1,true,.t (H k).e.ty,(H k).sz,(H k).cells.drop (off*(H k).sz)⟩) (m:=Bb m k M) (l:=l+1) k 0 c Y b (by rw[AS]) (by rw[A3,A];omega) (λU=>by rw[A3]at U⊢;rw[AS];obtain⟨J,K⟩:=o ae;rw[L ae,J,K];simp);rw[AS,A3,A]at this;simpa[upd]using this
   ·simp only[upd,Yk hi];exact(D i).ext a.2 (Yf _)
  by_cases I:(m k).cap-off=0
  ·have p:(H k).cells.drop (off*(H k).sz)=[]:=by
    refine iS ?_;by_cases f:(m k).cap=0
    ·rw[d.empty k b hl f];simp
    ·obtain⟨C,r,t,y,z⟩:=d.blk k b hl f;rw[show off=(m k).cap from by omega];exact y
   refine fin ⟨0,0,0⟩ (by rw[I]) (λe=>absurd rfl e) ?_;rw[p];exact d.overEmpty k b ((H k).g+1) (H k).e.ty (H k).sz (YS _) ⟨0,0,0⟩ rfl
  ·obtain⟨C,r,t,y,z⟩:=d.blk k b hl ae;have G:off*(H k).sz+((m k).cap-off)*(H k).sz=(m k).cap*(H k).sz:=(by rw[<-Y1];congr 1;omega);refine fin ⟨(m k).b,(m k).o+off*(H k).sz,(m k).cap-off⟩ rfl (λ_=>⟨rfl,rfl⟩) ?_;refine d.over k b ⟨(H k).g+1,true,.t (H k).e.ty,(H k).sz,(H k).cells.drop (off*(H k).sz)⟩ ⟨(m k).b,(m k).o+off*(H k).sz,(m k).cap-off⟩ (YS _) rfl I C w (λi=>?_) (.inr ⟨rfl,hl,ae⟩)
    (by rw[t];simp only;omega) (by simp only[Dz];omega) (λi x u hi W=>?_) (Yf _) rfl rfl rfl
   ·split
    ·rename_i e;rw[e,r];rfl
    ·rfl
   ·rw[YY]at hi;exact z _ x u hi (by rw[<-YM];exact W)
theorem R.adoptC{b:Act}{e:TypeId}{sz i:Nat}(h:R l n B ⟨s,H⟩ b w){k kp:Ad}(L:k.1=l+1)(A:kp.1=l+1)(d:kp≠k)(a:(H kp).live=true)(j:(H kp).cells[i]?=some .e0):
  R l n B ⟨s,updH (updH H k ⟨(H k).g+1,true,e,sz,[]⟩) kp ⟨(H kp).g,(H kp).live,(H kp).e,(H kp).sz,(H kp).cells.set i (.ref k ((H k).g+1) 0 0)⟩⟩ b w:=by
 obtain⟨m,S,g,D,o,z,hex⟩:=h.un;obtain⟨F,t⟩:=g.overEmpty k ae ((H k).g+1) e sz (YS _) ⟨0,0,0⟩ rfl;have p:updH H k ⟨(H k).g+1,true,e,sz,[]⟩ kp=H kp:=AF _ _ d;have hm:Bb m k ⟨0,0,0⟩ kp=m kp:=AZ _ _ d;obtain⟨u,q⟩:=F.cell kp ae (by rw[p];exact a) i (.ref k ((H k).g+1) 0 0) (λC f v r _=>by
  rw[hm]at f r;rw[p]at f;have c:(m kp).cap≠0:=λe=>by have:=g.empty kp ae a e;rw[this]at j;simp at j
  obtain⟨I,x,J,K,y⟩:=g.blk kp ae a c;rw[x]at f;cases f;have E:=(y _ _ v j r).2;cases E with
  |e0 G=>
   have:=RepA.refL (w:=w) (S:=S) (H:=updH H k ⟨(H k).g+1,true,e,sz,[]⟩) (m:=Bb m k ⟨0,0,0⟩) (l:=kp.1) k 0 0 G ae (by rw[AS]) (by rw[A3];simp) (λh=>by rw[A3]at h;simp at h);rw[AS,A3]at this;exact this)
 rw[p]at u q;exact⟨_,S,u,D,o,(z.ext t).ext q,(hex.trans (t.mono ae)).trans (q.mono ae)⟩
theorem Ok.killO{L:Nat}(h:Ok L H m S w)(k:Ad)(D:k.1<=L)(hl:(H k).live=true)(B:(H k).e.isO=true):
  Ok L (updH H k {H k with live:=false }) m (λb=>S b\/b=(m k).b) w/\Ext L H m S w (updH H k {H k with live:=false }) m (λb=>S b\/b=(m k).b) w:=by
 obtain⟨J,F,G⟩:=(h.mp.o k D hl).at B;have n:Ext L H m S w (updH H k {H k with live:=false }) m (λb=>S b\/b=(m k).b) w:=by
  refine⟨λ_ h=>.inl h,λ_ _=>rfl,λq c=>?_,λq c I a=>?_,rfl,rfl,rfl,Yf _⟩
  ·by_cases e:q=k
   ·subst e;rw[AS];exact Yf _
   ·rw[AF _ _ e];exact Yf _
  ·by_cases e:q=k
   ·subst e;rw[AS]at a;cases a
   ·rw[AF _ _ e]at a⊢;exact⟨a,rfl,rfl⟩
 have d:∀q:Ad,(updH H k {H k with live:=false } q).live=true->q≠k/\(H q).live=true/\updH H k {H k with live:=false } q=H q:=λq c=>by
  by_cases e:q=k
  ·subst e;rw[AS]at c;cases c
  ·rw[AF _ _ e]at c;exact⟨e,c,AF _ _ e⟩
 refine⟨⟨λb l=>?_,λq c a o=>?_,λq c a o=>?_,λq u c r a j o z heq=>?_,λq c a o=>?_,
  ⟨λq c a=>?_,λq c a he=>?_,λq u c r a j he t heq=>?_⟩⟩,n⟩
 ·rcases l with l|rfl
  ·exact h.sub b l
  grind
 ·obtain⟨e,f,g⟩:=d q a;rw[g];exact h.empty q c f o
 ·obtain⟨e,f,g⟩:=d q a;rintro(hs|l)
  ·exact h.fresh q c f o hs
  ·obtain⟨C,A,_⟩:=h.blk q c f o;rw[l,F]at A;cases A;cases G
 ·obtain⟨e,f,g⟩:=d q a;obtain⟨e',p,s⟩:=d u j;exact h.inj q u c r f p o z heq
 ·obtain⟨e,f,g⟩:=d q a;rw[g];obtain⟨C,l,hs,y,hx⟩:=h.blk q c f o;exact⟨C,l,hs,y,λi x v hi E=>⟨(hx i x v hi E).1,(hx i x v hi E).2.ext n c⟩⟩
 ·obtain⟨e,f,g⟩:=d q a;rw[g];exact(h.mp.o q c f).mono (λ_ h=>.inl h) (λ_ _=>rfl) (λ_=>rfl)
 ·obtain⟨e,f,g⟩:=d q a;rw[g]at he;refine⟨(h.mp.c q c f he).1,?_⟩;rintro(hs|l)
  ·exact(h.mp.c q c f he).2 hs
  ·exact e (h.mp.i q k c D f hl he B l)
 ·obtain⟨e,f,g⟩:=d q a;obtain⟨e',p,s⟩:=d u j;rw[g]at he;rw[s]at t;exact h.mp.i q u c r f p he t heq
def EO(x:AV):List Nat->(Nat->AV)->Nat->AV
 |[],s=>s
 |j::r,s=>EO x r (upd s j x)
theorem Qg(x:AV):∀(c:List Nat) (s:Nat->AV) (i:Nat),EO x c s i=if i∈c then x else s i
 |[],s,i=>by simp[EO]
 |j::r,s,i=>by
  rw[EO,Qg x r];by_cases b:i∈r
  ·grind
  ·rw[Yk b];by_cases a:i=j
   ·subst a;simp[upd]
   ·rw[Yk (by simp[b,a])];simp[upd,a]
theorem R.freezeM{a:Act}(h:R l n B ⟨s,H⟩ a w){k:Ad}{q:Bool}{d:List (List D)}(r:k.1<=l+1)(hl:(H k).live=true)(he:(H k).e=.m q d)(b:List Nat)(g:∀j∈b,s j=.mp k (H k).g):
  R l n B ⟨EO (.d (.map q d)) b s,updH H k {H k with live:=false }⟩ a w:=by
 obtain⟨m,S,o,z,f,p,hex⟩:=h.un;have e:(H k).e.isO=true:=by rw[he];rfl
 obtain⟨A,u⟩:=o.killO k r hl e;refine⟨m,_,A,z,f,λi=>?_,hex.trans (u.mono ae)⟩;show RepA w _ _ m (l+1) (EO (.d (.map q d)) b s i) _;rw[Qg];by_cases hi:i∈b
 ·rw[Ym hi];have hx:=p i;rw[show s i=.mp k (H k).g from g i hi]at hx;obtain⟨_,v⟩:=ff hx rfl hl;rw[v];have t:=o.mp.o k r hl;rw[he]at t;obtain⟨ents,c,x,y⟩:=t;exact .d _ _ (.ofM (.inr rfl) x (y.mono (λ_ h=>.inl h) (λ_ _=>rfl)))
 ·rw[Yk hi];exact(p i).ext u (Yf _)
theorem R.freezeB{act:Act}(h:R l n B ⟨s,H⟩ act w){k:Ad}{ds:List D}(o:k.1<=l+1)(hl:(H k).live=true)(r:(H k).cells=ds.map .d)(A:ds≠[])(p:List Nat)(y:∀j∈p,s j=.ptr k (H k).g 0):
  R l n B ⟨EO (.iptr ds 0) p s,updH H k {H k with live:=false }⟩ act w:=by
 obtain⟨m,S,q,M,u,G,hex⟩:=h.un;obtain⟨N,E⟩:=q.kill k o hl;have a:(m k).cap≠0:=λe=>by have:=q.empty k o hl e;rw[r]at this;exact A (XG.1 this)
 obtain⟨C,J,O,F,K⟩:=q.blk k o hl a;refine⟨m,_,N,M,u,λi=>?_,hex.trans (E.mono ae)⟩;show RepA w _ _ m (l+1) (EO (.iptr ds 0) p s i) _;rw[Qg];by_cases hi:i∈p
 ·rw[Ym hi];have hx:=G i;rw[show s i=.ptr k (H k).g 0 from y i hi]at hx;generalize act.tmps.getD i Go.undef=v at hx;generalize L:(H k).g=g at hx;cases hx with
  |ptrD _ _ _ _ _ _ t _=>rw[t L.symm]at hl;cases hl
  |ptrL _ _ _ _=>
   have I:ds.length<=(m k).cap*(H k).sz:=(by rw[r,YF]at F;exact F);have:=RepA.iptr (w:=w) (S:=λb=>S b\/(b=(m k).b/\(m k).cap≠0)) (H:=updH H k {H k with live:=false }) (m:=m) (l:=l+1) ds 0 ⟨(m k).b,(m k).o,none⟩ (λj=>(C[(m k).o+j]?).getD Go.undef) (.inr ⟨rfl,a⟩)
    (λj x f=>by have z:j<ds.length:=(Yc.1 f).1;rw[Addr.add_lit,JY J,Yv ae];rfl)
    (λj x f=>by have z:j<ds.length:=(Yc.1 f).1;have c:C[(m k).o+j]?=some (C[(m k).o+j]'ae):=Yv ae;obtain⟨_,g2⟩:=K j (.d x) _ (by rw[r,YR,f];rfl) c;rw[c];cases g2.ext E o with|d _ _ t=>exact t)
   exact this
 ·rw[Yk hi];exact(G i).ext E (Yf _)
end
end Go.Eng
namespace Go.Eng
set_option linter.all false
open Go Go.RowKit
def KA(r:Ren)(l n outs:Nat)(B:Base)(env:BI)(K:St->AT->Prop)(σ:St):Prop:=∃b,LY r l outs env K b/\∀a w,R l n B σ a w->R l n B b a w
section
variable {P:Program} {T:Nat->Option TI} {r:Ren} {l n outs:Nat} {B:Base} {env:BI} {τ σ:St} {a:AT} {o:Oper} {K:St->AT->Prop}
theorem KA.of(h:LY r l outs env K σ):KA r l n outs B env K σ:=⟨σ,h,λ_ _ h=>h⟩
theorem Qj{d:Nat}{e:TypeId}{sz:Nat}{cells:List AV}{x:Nat->AV}(h:Eo l n d e sz cells x (LY r l outs env K) σ):Eo l n d e sz cells x (KA r l n outs B env K) σ:=⟨h.1,.of h.2⟩
theorem tP(i:Ba P T)(h:RG r l outs env τ σ){d:Nat}(k:o.dst=some d)(j:Cr env [] o.op=true)(m:fresh d env=true)(p:tV T τ.H o.op (ev τ.s) none a (Fq n d K τ))
  (c:BA P l n o (KA r l n outs B ((d,[])::env) K) σ=A7 P σ.H o.op (ev σ.s) (CM n o.dst (KA r l n outs B ((d,[])::env) K) σ)):BA P l n o (KA r l n outs B ((d,[])::env) K) σ:=by
 rw[c,k];refine UJ (λy hy=>?_) (uS i h A8 (λb e=>by cases e) j p);obtain⟨f,g⟩:=UG h m hy;exact⟨f,.of g⟩
theorem ro{x:AV}{d:D}(h:GP x=some d):ren r x=x:=by cases x<;>simp only[GP]at h<;>first|(simp[ren];done)|cases h
theorem rO:∀{xs:List AV} {ds:List D},DK xs=some ds->Ao r xs=xs
 |[],_,_=>by simp[Ao]
 |x::xs,ds,h=>by
  simp only[DK]at h;split at h
  ·rename_i d a b c;rw[Ao,ro b,rO c]
  ·cases h
theorem x3{x:AV}{e:List D}(h:Ol x=some e):ren r x=x:=by
 cases x with
 |agg xs=>simp only[Ol]at h;rw[ren,rO h]
 |_=>
  simp only[Ol]at h;split at h
  ·rename_i d a;exact ro a
  ·cases h
theorem UA{sz:Nat}:∀{ps:List (Nat×AV)} {i:Nat} {a:List (List D)},Gh sz i ps=some a->(ps.map λp=>(p.1,ren r p.2))=ps
 |[],_,_,_=>rfl
 |(j,v)::ps,i,a,h=>by
  simp only[Gh]at h;split at h
  ·rename_i e b c d;simp only[YZ,x3 c,UA d]
  ·cases h
theorem eL(h:RG r l outs env τ σ){sz c:Nat}{y:AV}{news:List AV}(i:Ww τ.H sz y=true)(hs:Em sz (cellsOf τ.H y) y c news):JK σ.H sz (ren r y)=some (c,Ao r news)/\(Ao r news).all AV.one=true:=by
 obtain⟨p,a⟩:=hs;have b:(Ao r news).all AV.one=true:=by rw[FS,List.all_map];refine Yu.2 λx hx=>?_;have:=Yu.1 p x hx;cases x<;>first|(simp[Function.comp,ren,AV.one];done)|cases this
 refine⟨?_,b⟩;split at a
 ·obtain⟨rfl,rfl⟩:=a;simp[ren,JK,Ao]
 ·rename_i s;obtain⟨d,rfl,rfl⟩:=a;simp only[ren,JK];rw[Ym (Yu.2 λe he=>by simpa using d e he),Iq]
 ·rename_i k g off m;obtain⟨rfl,d,rfl⟩:=a;simp only[Ww,Yb]at i;obtain⟨hl,q⟩:=i;obtain⟨j,n,t,o,f⟩:=h.h.at hl;have e:cellsOf τ.H (.ref k g off c)=(τ.H k).cells:=by simp[cellsOf,hl]
  rw[e]at d⊢;simp only[ren,JK];rw[Ym ⟨j,n,by rw[o];exact Ye q,by rw[f,CR];exact d⟩,f,Fg,FR]
 ·exact a.elim
theorem Zsi(E:RenOk r l outs)(F:Ba P T)(h:RG r l outs env τ σ){d:Nat}{t:TypeId}{x y:AV}(X:fresh d env=true)(b:ai T r n d t x y a K τ):
  MR P l n d t (ren r x) (ren r y) (KA r l n outs B ((d,[])::env) K) σ:=by
 unfold ai at b;split at b
 case h_2=>exact b.elim
 rename_i i hi;split at b
 case h_2=>exact b.elim
 rename_i e sz he;split at b
 case h_2=>exact b.elim
 rename_i j L J m;have J:=Yj J;unfold MR;rw[(F _ _ hi).elm _ he];split at b
 ·rename_i byt z c news q W Z;obtain⟨f,U,o⟩:=b;obtain⟨O,Q⟩:=eL h m f;obtain⟨M,N⟩:=(F _ _ L).byt _ W;have G:c*P.bytesOf e<=140737488355328:=D2 (Nat.mul_le_mul_left _ M) U;refine⟨ae,N,by rw[(F _ _ L).zer _ Z];rfl,?_⟩;simp only[O,ren];refine⟨Q,G,λhc=>?_,λhc=>?_⟩
  ·subst hc;have C:d<n:=by
    unfold Kf at o;split at o
    ·rename_i C;have:=Yj C;omega
    ·exact o.elim
   have hn:=Nn (x':=λg=>.ref (l+1,d) g 0 0) E h X (λg=>by simp[ren,E.own]) o;have I:Ao r news=[]:=by
    have hl:news=[]:=by
     obtain⟨_,f⟩:=f;split at f
     ·exact f.2
     ·obtain⟨_,A,p⟩:=f;have:‹List (List D)›=[]:=Jt A.symm;rw[this]at p;simpa using p
     ·obtain⟨A,_,p⟩:=f;rw[<-A]at p;simpa using p
     ·exact f.elim
    rw[hl];simp[Ao]
   rw[I]at hn;refine⟨C,_,hn.2,λact w hR=>?_⟩;have:=R.adopt (e:=e) (sz:=sz) hR (l+1,d) rfl ((σ.H (l+1,d)).g+1) (YS _) (d:=d) (by simp[upd]);have S:upd (upd σ.s d .e0) d (.ref (l+1,d) ((σ.H (l+1,d)).g+1) 0 0)=upd σ.s d (.ref (l+1,d) ((σ.H (l+1,d)).g+1) 0 0):=(by funext j;unfold upd;split<;>rfl);simp only[S]at this;exact this
  ·exact Qj (Nn (x':=λg=>.ref (l+1,d) g 0 c) E h X (λg=>by simp[ren,E.own]) o)
 ·rename_i byt z k q off c' c news C' n' q' W Z;split at b
  case h_2=>exact b.elim
  rename_i hl u s C;obtain⟨f,⟨U,o,A,p⟩,V⟩:=b;obtain⟨V,Y,H⟩:=Vq E h (ED hl).2 V;obtain⟨O,Q⟩:=eL h m f;obtain⟨M,N⟩:=(F _ _ L).byt _ W;obtain⟨g1,g2,g3,g4,g5⟩:=h.h.at hl;have C:=Yj C;have u:=Ye u;have s:=zm s;refine⟨ae,N,by rw[(F _ _ L).zer _ Z];rfl,?_⟩;simp only[O,ren];refine⟨Q,g1,g2,by rw[g4,u],by rw[g3,s],by rw[g5,CR];exact U,by rw[A];exact D2 (Nat.mul_le_mul_left _ M) p,H,ae,.of ⟨_,_,V,?_⟩⟩;have h7:=h.put0 (v:=.ref k (q+1) 0 n') (y:=.ref (r.κ k) (r.γ k+q+1) 0 (c'+c)) X (by simp[ren,A,YM]);have h8:=RG.updH E h7 k ⟨q+1,true,e,sz,C'⟩ rfl Y;have S:AJ r k ⟨q+1,true,e,sz,C'⟩=⟨r.γ k+q+1,true,e,sz,(σ.H (r.κ k)).cells.drop (off*sz)++Ao r news⟩:=by simp only[AJ,g5,Fg,<-Hn,o,YM]
  rw[S]at h8;exact h8
 ·exact b.elim
theorem qZ(y:RenOk r l outs)(h:RG r l outs env τ σ){t:TypeId}{i:TI}(hi:TIok P t i){x:AV}{vs:List AV}(c:QM r n i x (some vs) a K τ):
  ∃k g off,ren r x=.ptr k g off/\g=(σ.H k).g/\(σ.H k).live=true/\(Ao r vs).length=P.cellsOf t/\Ao r vs≠[]/\off+(Ao r vs).length<=(σ.H k).cells.length/\(k.1=l+1\/(Ao r vs).all (AV.low k.1)=true)/\
   LY r l outs env K ⟨σ.s,updH σ.H k {σ.H k with cells:=(σ.H k).cells.take off++Ao r vs++(σ.H k).cells.drop (off+(Ao r vs).length) }⟩:=by
 unfold QM at c;split at c
 case h_2=>exact c.elim
 rename_i k q off E heq;cases heq;split at c
 case h_2=>exact c.elim
 rename_i hl d m;have d:=Ye d;have m:=Yj m;obtain⟨s,u,B,C,v⟩:=h.h.at hl;obtain⟨F,G⟩:=ED hl;have fin:∀f z,Jq (τ.H k).cells off vs f->Ky r k vs (K ⟨τ.s,updH τ.H k ⟨q,true,(τ.H k).e,(τ.H k).sz,f⟩⟩ z)->_:=λf z hs o=>by
  obtain⟨s1,s2⟩:=hs;obtain⟨o,p,j⟩:=Vq y h (ED hl).2 o;refine(⟨r.κ k,r.γ k+q,off,by simp[ren],s,u,by rw[CR,hi.siz,d],by intro e;have:=congrArg List.length e;rw[CR,Hd]at this;omega,by rw[v,CR,CR];exact s1,?_,_,_,o,?_⟩:
   ∃k' g b,ren r (.ptr k q off)=.ptr k' g b/\g=(σ.H k').g/\(σ.H k').live=true/\(Ao r vs).length=P.cellsOf t/\Ao r vs≠[]/\b+(Ao r vs).length<=(σ.H k').cells.length/\(k'.1=l+1\/(Ao r vs).all (AV.low k'.1)=true)/\
   LY r l outs env K ⟨σ.s,updH σ.H k' {σ.H k' with cells:=(σ.H k').cells.take b++Ao r vs++(σ.H k').cells.drop (b+(Ao r vs).length) }⟩)
  ·exact j
  ·have w:=RG.updH y h k ⟨q,true,(τ.H k).e,(τ.H k).sz,f⟩ rfl p;have A:AJ r k ⟨q,true,(τ.H k).e,(τ.H k).sz,f⟩={σ.H (r.κ k)with cells:=(σ.H (r.κ k)).cells.take off++Ao r vs++(σ.H (r.κ k)).cells.drop (off+(Ao r vs).length) }:=(by simp only[AJ,v,CR,FR,Fg,<-Hn,s2,s,B,C,<-u]);rw[A]at w;exact w
 split at c
 ·split at c
  ·rename_i D;exact fin _ _ ⟨Yj D,rfl⟩ c
  ·exact c.elim
 ·exact fin _ _ c.1 c.2
 ·exact c.elim
theorem rV(L:RenOk r l outs)(D:Ba P T)(h:RG r l outs env τ σ)(v:Cr env [] o.op=true)(H:Ir env o.dst=true)(s:K3 P T l n r o a K τ):BA P l n o (KA r l n outs B (Fm env o.dst) K) σ:=by
 obtain⟨dst,op,ty,ps,af,gd⟩:=o;have ops:∀{op:Op},Cr env [] op=true->(∀c x y,op≠.pick c x y)->∀x∈op.operands,ev σ.s x=ren r (ev τ.s x):=fun {op} v hne=>by
  unfold Cr at v;split at v
  ·exact absurd rfl (hne _ _ _)
  ·exact GF h A8 v
 unfold K3 at s;simp only at v H s⊢;split at s
 ·rename_i t;split at s
  case h_2=>exact s.elim
  rename_i d i hi;split at s
  case h_2=>exact s.elim
  rename_i z zs A;have M:=Lx (r:=r) ((D _ _ hi).flt _ A);have N:=Nn (x':=λg=>.ptr (l+1,d) g 0) L h H (λg=>by simp[ren,L.own]) s;rw[M]at N;simp only[BA,(D _ _ hi).zer _ A];exact⟨by simp,Qj N⟩
 ·rename_i t x;split at s
  case h_2=>exact s.elim
  rename_i d z zs A O;have hx:=ops v (λ_ _ _ e=>by cases e) x (by simp[Op.operands]);have N:=Nn (x':=λg=>.ptr (l+1,d) g 0) L h H (λg=>by simp[ren,L.own]) s;have E:=PZ (r:=r) A (Qd O);simp only[BA,hx,E];refine⟨Zyl (by simp),?_⟩;rw[CR];exact Qj N
 ·rename_i t p x;split at s
  case h_2=>exact s.elim
  rename_i i hi O;have hx:=ops v (λ_ _ _ e=>by cases e) x (by simp[Op.operands]);have hpp:=ops v (λ_ _ _ e=>by cases e) p (by simp[Op.operands]);cases A:C9 (ev τ.s x)with
  |none=>rw[A]at s;unfold QM at s;split at s<;>first|exact s.elim|(rename_i e;cases e)
  |some vs=>
   rw[A]at s;have E:=PZ (r:=r) A (Qd O);obtain⟨k,g,off,R,Y,Z,e4,e5,e6,e7,e8⟩:=qZ L h (D _ _ hi) s;simp only[BA,hpp,hx,E,R];exact⟨Y,Z,e4,e5,e6,e7,.of e8⟩
 ·rename_i t len parts;split at s
  case h_2=>exact s.elim
  rename_i d i hi;split at s
  case h_2=>exact s.elim
  rename_i e sz he;simp only[BA,(D _ _ hi).elm _ he];split at s
  ·rename_i u;have u:=Yj u;refine⟨ae,?_⟩;split at s
   ·rename_i hps;obtain⟨I,G⟩:=UG h H (y:=.e0) ⟨.e0,a,by simp[ren],s⟩;exact⟨by rw[<-Gt,hps];rfl,I,.of G⟩
   ·exact s.elim
  ·rename_i len' u;have u:=Yj u;refine⟨ae,?_⟩;split at s
   case h_2=>exact s.elim
   rename_i j V W;split at s
   case h_2=>exact s.elim
   rename_i z A;split at s
   case h_2=>exact s.elim
   rename_i es F J;split at s
   case h_2=>exact s.elim
   rename_i hes;have R:(parts.toList.map λp=>(p.1,ev σ.s p.2))=parts.toList.map λp=>(p.1,ev τ.s p.2):=(by have:(parts.toList.map λp=>(p.1,ev σ.s p.2))=(parts.toList.map λp=>(p.1,ev τ.s p.2)).map λp=>(p.1,ren r p.2):=(by rw[Jv];refine Fa λp s=>?_;simp only[Function.comp];rw[ops v (λ_ _ _ e=>by cases e) p.2 (by simp only[Op.operands,OT,YV];exact⟨p,s,rfl⟩)]);rw[this,UA J]);rw[R];simp only[(D _ _ V).zer _ A,J];obtain⟨I,G⟩:=UG h H (y:=.d (.list es)) ⟨.d (.list es),a,by simp[ren],s⟩;exact⟨Yj W,Ye F,Ye hes,I,.of G⟩
  ·exact s.elim
 ·rename_i t x y;split at s
  case h_2=>exact s.elim
  rename_i d i k1 c k2 c' m C b hi hx0 hy0;have hx:=ops v (λ_ _ _ e=>by cases e) x (by simp[Op.operands]);have hy:=ops v (λ_ _ _ e=>by cases e) y (by simp[Op.operands]);rw[hx0]at hx;rw[hy0]at hy;split at s
  case h_2=>exact s.elim
  rename_i e sz he;split at s
  case h_2=>exact s.elim
  rename_i j V u;split at s
  case h_2=>exact s.elim
  rename_i z byt A S;split at s
  case h_2=>exact s.elim
  rename_i F;obtain⟨⟨m1,m2,m3,m4⟩,s⟩:=s;have F:=Ye F;have u:=Yj u;have hb:=(D _ _ V).byt _ S;have hfz:=(D _ _ V).flt _ A;have U:C.all AV.flat=true:=by subst m4;refine Yu.2 λq hq=>?_;obtain⟨z',E,X⟩:=R6.1 hq;rw[(Xt.1 E).2]at X;exact Yu.1 hfz q X
  have M:=Lx (r:=r) U;have N:=Nn (x':=λg=>.ref (l+1,d) g 0 m) L h H (λg=>by simp[ren,L.own]) s;rw[M]at N;simp only[BA,(D _ _ hi).elm _ he,hx,hy,ren,(D _ _ V).zer _ A];subst m1;have hbb:(P.bytesOf e:Int)*c'<=(byt:Int)*c':=iO ae ae;refine⟨ae,m2,ae,hb.2,ae,F,?_⟩;simp only[YW,m4];exact Qj N
 ·rename_i c;split at s
  ·rename_i w;split at s
   case h_2=>exact s.elim
   rename_i d x y t t' ha ht;split at s
   case h_2=>exact s.elim
   rename_i Q;have Q:=Ye Q;subst Q;have G:c.argTypes=#[t,t]:=C8 (by simpa using ht);have hx:=ops v (λ_ _ _ e=>by cases e) x (by simp only[Op.operands,Call.operands,OS];exact .inr (by rw[<-XC,ha];simp));have hy:=ops v (λ_ _ _ e=>by cases e) y (by simp only[Op.operands,Call.operands,OS];exact .inr (by rw[<-XC,ha];simp));simp only[BA,w,ha,ht];refine⟨by rw[G];rfl,?_⟩;rw[hx,hy];exact Zsi L D h H s
  ·rename_i hna;split at s
   case h_2=>exact s.elim
   rename_i d;unfold pV at s;simp only at s;split at s
   ·rename_i f w;obtain⟨i,first,caps,x,a',R,Y,Z⟩:=dU h A8 (λb e=>by cases e) w v s;simp only[BA,w,R];refine Y.mono λy H' ⟨I,G⟩=>?_;subst I;subst G;obtain⟨I,G⟩:=UG h H (y:=ren r x) ⟨x,a',rfl,Z⟩;exact⟨I,.of G⟩
   ·rename_i hnv;refine tP (o:=⟨some d,.call c,ty,ps,af,gd⟩) D h rfl v H s ?_;simp only[BA]
 ·rename_i I G h3 h4 h5 h6;split at s
  case h_2=>exact s.elim
  rename_i d;have hp':tV T τ.H op (ev τ.s) none a (Fq n d K τ):=by
   unfold pV at s;split at s
   ·exact absurd rfl (h6 _)
   ·exact absurd rfl (h4 _ _ _)
   ·exact s
  refine tP (o:=⟨some d,op,ty,ps,af,gd⟩) D h rfl v H hp' ?_;simp only[BA]
theorem ua{d:Option Nat}{v y:AV}{c:Hp}(f:Ir env d=true){τ':St}(h:RG r l outs env ⟨τ.s,τ'.H⟩ ⟨σ.s,c⟩)(hy:y=ren r v)(b:SM n K τ.s τ'.H v a d):
  CM n d (KA r l n outs B (Fm env d) K) ⟨σ.s,c⟩ y:=by
 cases d with
 |none=>exact .of ⟨_,_,b,h⟩
 |some d=>
  simp only[SM]at b;split at b
  ·rename_i e;exact⟨Yj e,.of ⟨_,_,b,h.put0 f hy⟩⟩
  ·exact b.elim
theorem ey(Q:RenOk r l outs)(A:Ba P T)(h:RG r l outs env τ σ)(s:Cr env [] o.op=true)(hf:Ir env o.dst=true)(d:Jy P T l n r o a K τ):CG P l n B o (KA r l n outs B (Fm env o.dst) K) σ:=by
 have ops:∀{op:Op},Cr env [] op=true->(∀c x y,op≠.pick c x y)->∀x∈op.operands,ev σ.s x=ren r (ev τ.s x):=fun {op} s hne=>by
  unfold Cr at s;split at s
  ·exact absurd rfl (hne _ _ _)
  ·exact GF h A8 s
 unfold Jy at d;split at d
 case h_2=>exact Lu (rV Q A h s hf d)
 rename_i c ho;split at d
 ·rename_i f;split at d
  case h_2=>exact d.elim
  rename_i x y t t' ha ht;have u:o.op=.call ⟨.builtin .copy,#[x,y],#[t,t']⟩:=by rw[ho];have C:c.args=#[x,y]:=C8 (by simpa using ha);have O:c.argTypes=#[t,t']:=C8 (by simpa using ht);cases c;simp only at f C O;subst f;subst C;subst O;rfl
  rw[u]at s;have hx:=ops s (λ_ _ _ e=>by cases e) x (by simp[Op.operands,Call.operands]);have hy:=ops s (λ_ _ _ e=>by cases e) y (by simp[Op.operands,Call.operands]);unfold ko at d;split at d
  case h_2=>exact d.elim
  rename_i i i' hi hi';split at d
  case h_2=>exact d.elim
  rename_i e sz e' sz' he he';split at d
  case h_2=>exact d.elim
  rename_i j q1 q2 V w Y;split at d
  case h_2=>exact d.elim
  rename_i z k q off cn cnt news N b Z J;split at d
  case h_2=>exact d.elim
  rename_i hl m;obtain⟨h1,h2,h3,H⟩:=d;obtain⟨H,I,p⟩:=Vq Q h (ED hl).2 H;have q1:=Ye q1;have q2:=Ye q2;subst q1;subst q2;have m:=Ye m;have w:=Yj w;obtain⟨D,E,S,F,G⟩:=h.h.at hl;obtain⟨C,O⟩:=eL h Y h1;rw[J]at hx;obtain⟨s1,s2⟩:=h3;obtain⟨ss,M⟩:=σ;refine Zxf (k:=r.κ k) (g:=r.γ k+q) (off:=off) (cn:=cn) (cnt:=cnt) (news:=Ao r news) u (by rw[hx];simp[ren]) ((A _ _ hi).elm _ he) ((A _ _ hi').elm _ he') (by rw[(A _ _ V).zer _ Z];rfl) ae D E (by rw[F,m]) (by rw[hy];exact C) h2
   (by rw[G,CR,CR];exact s1) p ?_
  have U:=RG.updH Q h k ⟨q,true,(τ.H k).e,(τ.H k).sz,N⟩ rfl I;have R:AJ r k ⟨q,true,(τ.H k).e,(τ.H k).sz,N⟩={M (r.κ k)with cells:=(M (r.κ k)).cells.take (off*sz)++Ao r news++(M (r.κ k)).cells.drop (off*sz+(Ao r news).length) }:=by simp only at D E S F G;simp only[AJ,G,CR,FR,Fg,<-Hn,s2,D,S,F,<-E]
  simp only at R;rw[R]at U;refine ua (v:=.d (.int .i64 cnt)) (a:=b) (τ':=⟨τ.s,updH τ.H k ⟨q,true,(τ.H k).e,(τ.H k).sz,N⟩⟩) hf U (by simp[ren]) H
 ·rename_i f;split at d
  case h_2=>exact d.elim
  rename_i x t ha ht hd;have u:o.op=.call ⟨.builtin .clear,#[x],#[t]⟩:=by rw[ho];have C:c.args=#[x]:=C8 (by simpa using ha);have O:c.argTypes=#[t]:=C8 (by simpa using ht);cases c;simp only at f C O;subst f;subst C;subst O;rfl
  rw[u]at s;have hx:=ops s (λ_ _ _ e=>by cases e) x (by simp[Op.operands,Call.operands]);unfold jd at d;split at d
  case h_2=>exact d.elim
  rename_i i hi;split at d
  case h_2=>exact d.elim
  rename_i e sz he;split at d
  case h_2=>exact d.elim
  rename_i j V w;split at d
  case h_2=>exact d.elim
  rename_i z k q off cn N b Z J;split at d
  case h_2=>exact d.elim
  rename_i hl m L;obtain⟨⟨h1,h2⟩,H⟩:=d;obtain⟨H,I,p⟩:=Vq Q h (ED hl).2 H;have m:=Ye m;have w:=Yj w;have L:=Ye L;obtain⟨D,E,S,F,G⟩:=h.h.at hl;have hfz:=Lx (r:=r) ((A _ _ V).flt _ Z);rw[hfz]at p;rw[J]at hx;obtain⟨ss,M⟩:=σ;refine Zub (k:=r.κ k) (g:=r.γ k+q) (off:=off) (cn:=cn) u hd (by rw[hx];simp[ren]) ((A _ _ hi).elm _ he) ((A _ _ V).zer _ Z) L ae D E (by rw[F,m]) (by rw[G,CR];exact h1) p ?_;have U:=RG.updH Q h k ⟨q,true,(τ.H k).e,(τ.H k).sz,N⟩ rfl I;have X:Ao r (List.replicate cn z).flatten=(List.replicate cn z).flatten:=Lx (by refine Yu.2 λq hq=>?_;obtain⟨z',hz',W⟩:=R6.1 hq;rw[(Xt.1 hz').2]at W;exact Yu.1 ((A _ _ V).flt _ Z) q W);have R:AJ r k ⟨q,true,(τ.H k).e,(τ.H k).sz,N⟩={M (r.κ k)with cells:=(M (r.κ k)).cells.take (off*sz)++(List.replicate cn z).flatten++(M (r.κ k)).cells.drop ((off+cn)*sz) }:=by simp only at D E S F G;rw[<-h2];simp only[AJ,G,Hn,FR,Fg,X,D,S,F,<-E]
  simp only at R;rw[R]at U;exact .of ⟨_,_,H,by rw[hd];exact U⟩
 ·exact Lu (rV Q A h s hf d)
theorem mD{a:Nat->Option (Nat×Nat)}:∀(ps:List (Nat×AV)) (z cs:List AV),(∀p∈ps,JB p.2=true)->CI a z ps=some cs->CI a (Ao r z) (ps.map λp=>(p.1,ren r p.2))=some (Ao r cs)
 |[],z,cs,_,h=>by simp only[CI,Yn]at h;subst h;simp[CI]
 |(f,v)::ps,z,cs,d,h=>by
  simp only[CI]at h;split at h
  ·rename_i off size vs b g;split at h
   ·cases h
   ·rename_i e;have c:=PZ (r:=r) g (Qd (d (f,v) (YJ ..)));simp only[YZ,CI,b,c,CR];rw[Yk e];have:=mD ps _ cs (λp b=>d p (YH _ b)) h;rw[<-this];simp only[Hn,FR,Fg]
  ·cases h
theorem ZIR(d:Co o=true)(b:KY P T l n r o a K τ):Jy P T l n r o a K τ:=by
 unfold KY at b;split at b
 ·rename_i c;simp[Co,c]at d
 ·exact b
theorem Zyi(w:RenOk r l outs)(m:Ba P T)(h:RG r l outs env τ σ)(k:Cr env [] o.op=true)(u:Ir env o.dst=true)(c:KY P T l n r o a K τ):CG P l n B o (KA r l n outs B (Fm env o.dst) K) σ:=by
 unfold KY at c;split at c
 case h_2=>exact ey w m h k u c
 rename_i t len parts D;split at c
 case h_2=>exact ey w m h k u c
 case h_3=>exact ey w m h k u c
 rename_i b;have ops:∀x∈o.op.operands,ev σ.s x=ren r (ev τ.s x):=by
  unfold Cr at k;split at k
  ·rename_i e;rw[D]at e;cases e
  ·exact GF h A8 k
 unfold jt at c;split at c
 case h_2=>exact c.elim
 rename_i d i I hi;split at c
 case h_2=>exact c.elim
 rename_i e sz he;split at c
 case h_2=>exact c.elim
 rename_i j J E v;split at c
 case h_2=>exact c.elim
 rename_i z M;split at c
 case h_2=>exact c.elim
 rename_i cs F f C;split at c
 case h_2=>exact c.elim
 rename_i A;have G:(parts.toList.map λp=>(p.1,ev σ.s p.2))=(parts.toList.map λp=>(p.1,ev τ.s p.2)).map λp=>(p.1,ren r p.2):=by rw[Jv];refine Fa λp c=>?_;rw[ops p.2 (by rw[D];simp only[Op.operands,OT,YV];exact⟨p,c,rfl⟩)];rfl
 have q:o.dst=some d:=I;rw[q]at u⊢;have L:=Nn (x':=λg=>.ref (l+1,d) g 0 (len+1)) w h u (λg=>by simp[ren,w.own]) c;obtain⟨s,H⟩:=σ;exact qx D q ((m _ _ hi).elm _ he) (by have:=Yj E;omega) (Yj v) ((m _ _ J).zer _ M) (Ye F) (by rw[G];have:=mD (r:=r) _ _ _ (λp c=>Yu.1 C p c) f;rw[Lx (r:=r) (z:=(List.replicate (len+1) z).flatten) (Yu.2 λx hx=>by obtain⟨y,hy,hx⟩:=R6.1 hx;rw[List.eq_of_mem_replicate hy]at hx;exact Yu.1 A x hx)]at this;exact this) (Qj L)
theorem ZHt(d:Co o=true)(c:IU P T l n r o a K τ):KY P T l n r o a K τ:=by
 unfold IU at c;split at c
 ·rename_i b;simp[Co,b]at d
 ·rename_i b;simp[Co,b]at d
 ·exact c
theorem ZpV(f:RenOk r l outs)(h:RG r l outs env τ σ){K:St->AT->Prop}{d:Nat}(m:fresh d env=true){e:EK}{x x':Nat->AV}(hx:∀g,x' (r.γ (1,d)+g)=ren r (x g))(b:X4 n d e x K τ a):
  n3 l n d e x' (KA r l n outs B ((d,[])::env) K) σ:=by
 unfold X4 at b;split at b
 ·rename_i k;refine⟨Yj k,.of ⟨_,_,b,?_⟩⟩;have j:=RG.updH f h (1,d) ⟨(τ.H (1,d)).g+1,true,e,0,[]⟩ rfl (.inl rfl);have c:=j.put0 m (v:=x ((τ.H (1,d)).g+1)) (y:=x' ((σ.H (l+1,d)).g+1)) (by rw[h.g,YM];exact hx _);have i:AJ r (1,d) ⟨(τ.H (1,d)).g+1,true,e,0,[]⟩=⟨(σ.H (l+1,d)).g+1,true,e,0,[]⟩:=by simp only[AJ,Ao,h.g,YM]
  rw[i,f.own]at c;exact c
 ·exact b.elim
theorem sA(w:RenOk r l outs)(O:Ba P T)(h:RG r l outs env τ σ)(v:Cr env [] o.op=true)(q:Ir env o.dst=true)(b:IU P T l n r o a K τ):CG P l n B o (KA r l n outs B (Fm env o.dst) K) σ:=by
 have ops:(∀c x y,o.op≠.pick c x y)->∀x∈o.op.operands,ev σ.s x=ren r (ev τ.s x):=λF=>by
  unfold Cr at v;split at v
  ·rename_i e;exact absurd e (F _ _ _)
  ·exact GF h A8 v
 unfold IU at b;split at b
 ·rename_i t x j;split at b
  case h_2=>exact b.elim
  rename_i d i z s hi m;split at b
  case h_2=>exact b.elim
  rename_i u;rw[s]at q⊢;have U:=ZpV (B:=B) (x':=λg=>.ptr (l+1,d) g 0) w h q (λg=>by simp[ren,w.own]) b;obtain⟨ss,Q⟩:=σ;have V:=Im ((O _ _ hi).kin.trans (Ye u));have f:=ops (by rw[j];intro _ _ _ e;cases e) x (by rw[j];simp[Op.operands]);exact ZqO j s V (by rw[f,m];simp[ren]) U
 ·rename_i x j;split at b
  case h_2=>exact b.elim
  rename_i d k g s m;split at b
  case h_2=>exact b.elim
  rename_i z p E hl he;have f:=ops (by rw[j];intro _ _ _ e;cases e) x (by rw[j];simp[Op.operands]);rw[m]at f;obtain⟨A,C,J,L,M⟩:=h.h.at hl;rw[s]at q⊢;unfold wE at b;split at b
  case h_2=>exact b.elim
  rename_i a1 a0 D;obtain⟨H,G⟩:=b;obtain⟨ss,Q⟩:=σ;refine ZtR (k:=r.κ k) (g:=r.γ k+g) (z:=z) (p:=p) j s (by rw[f];simp[ren]) A C (by rw[J];exact he) (Yj D) (λR=>.of ⟨_,_,G (Ys R),h.put0 q (by simp[ren,Ao])⟩) (λS=>?_);have N:=RG.updH w h k ⟨g,true,.s z (p+EV z p),(τ.H k).sz,(τ.H k).cells⟩ rfl (.inl (Ye E));have I:AJ r k ⟨g,true,.s z (p+EV z p),(τ.H k).sz,(τ.H k).cells⟩={Q (r.κ k)with e:=.s z (p+EV z p) }:=by simp only at A C J L M;simp only[AJ,A,L,<-M,<-C]
  simp only at I;rw[I]at N;exact .of ⟨_,_,H (Yq S),N.put0 q (by simp only[ren,Ao])⟩
 ·exact Zyi w O h v q b
end
end Go.Eng
