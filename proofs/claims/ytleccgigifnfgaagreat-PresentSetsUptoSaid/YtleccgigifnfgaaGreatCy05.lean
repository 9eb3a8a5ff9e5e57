import Derived.Test.YtleccgigifnfgaaGreatCy01
import Derived.Maps.RangeRun
import Derived.Test.YtleccgigifnfgaaGreatCy02
import Derived.Test.YtleccgigifnfgaaGreatCy04
import Derived.Test.YtleccgigifnfgaaGreatCy00
namespace Go.Eng
set_option linter.all false
open Go Go.RowKit
section
variable {P:Program} {l n:Nat} {H:Hp} {m:Mu} {S:Nat→Prop} {w w':World} {s:Nat→AV} {a:Act}
theorem Ok.allocO(h:Ok l H m S w)(k:Ac)(P:k.1≤l)(b:Blk)(K:b.e.isO=true)(u:b.cells=[])(O:(H k).g<b.g)(o:Obj)(D:w'.heap=w.heap.push o)
  (J:HN w' S w.heap.size b.e) (F:w'.os=w.os) (G:w'.tape=w.tape) (I:w'.output=w.output):
  Ok l (updH H k b) (A1 m k ⟨w.heap.size,0,0⟩) S w'∧Ext l H m S w (updH H k b) (A1 m k ⟨w.heap.size,0,0⟩) S w':=by
 have d:∀i,i<w.heap.size→w'.heap[i]?=w.heap[i]?:=fun i hi=>by rw[D,G6,Yr (by omega)]
 have j:Ext l H m S w (updH H k b) (A1 m k ⟨w.heap.size,0,0⟩) S w':=by
  refine⟨fun _ h=>h,fun i hi=>d i (h.sub i hi),fun q a=>?_,fun q a y hl=>?_,F,G,I,by rw[D];simp⟩
  ·by_cases e:q=k
   ·subst e;rw[AN];omega
   ·rw[AG _ _ e];exact Yp _
  ·by_cases e:q=k
   ·subst e;rw[AN]at y;omega
   ·rw[AG _ _ e]at hl⊢;rw[AS _ _ e];exact⟨hl,rfl,rfl⟩
 have B:∀q:Ac,q.1≤l→(H q).live=true→(m q).cap≠0→(m q).b<w.heap.size:=fun q a hl n=>by
  obtain⟨C,t,_⟩:=h.blk q a hl n
  grind
 have A:∀q:Ac,q.1≤l→(H q).live=true→(H q).e.isO=true→(m q).b<w.heap.size:=fun q a hl n=>by
  obtain⟨C,t,_⟩:=(h.mp.o q a hl).at n
  grind
 refine⟨⟨fun i hi=>?_,fun q a hl c=>?_,fun q a hl c=>?_,fun q s a r hl f c g heq=>?_,fun q a hl c=>?_,
  ⟨fun q a hl=>?_,fun q a hl he=>?_,fun q s a r hl f he p heq=>?_⟩⟩,j⟩
 ·have:=h.sub i hi;rw[D];simp;omega
 ·by_cases e:q=k
  ·subst e;rw[AN];exact u
  ·rw[AG _ _ e]at hl⊢;rw[AS _ _ e]at c;exact h.empty q a hl c
 ·by_cases e:q=k
  ·subst e;rw[AU]at c;exact absurd rfl c
  ·rw[AG _ _ e]at hl;rw[AS _ _ e]at c⊢;exact h.fresh q a hl c
 ·by_cases e:q=k
  ·subst e;rw[AU]at c;exact absurd rfl c
  ·by_cases e':s=k
   ·subst e';rw[AU]at g;exact absurd rfl g
   ·rw[AS _ _ e,AS _ _ e']at heq
    rw[AG _ _ e]at hl;rw[AG _ _ e']at f
    rw[AS _ _ e]at c;rw[AS _ _ e']at g
    exact h.inj q s a r hl f c g heq
 ·by_cases e:q=k
  ·subst e;rw[AU]at c;exact absurd rfl c
  ·rw[AG _ _ e]at hl⊢
   rw[AS _ _ e]at c⊢
   obtain⟨C,t,hs,z,N⟩:=h.blk q a hl c
   refine⟨C,by rw[d _ (B q a hl c)];exact t,hs,z,fun i x v hi M=>?_⟩
   obtain⟨E,g2⟩:=N i x v hi M
   exact⟨E,g2.ext j a⟩
 ·by_cases e:q=k
  ·subst e;rw[AN,AU];exact J
  ·rw[AG _ _ e]at hl⊢;rw[AS _ _ e]
   exact(h.mp.o q a hl).mono (fun _ h=>h) (fun i hi=>d i (h.sub i hi)) (fun L=>d _ (A q a hl L))
 ·by_cases e:q=k
  ·subst e;rw[AU];exact⟨⟨rfl,rfl⟩,fun hs=>by have:=h.sub _ hs;simp at this⟩
  ·rw[AG _ _ e]at hl he;rw[AS _ _ e];exact h.mp.c q a hl he
 ·by_cases e:q=k<;>by_cases e':s=k
  ·grind
  ·subst e
   rw[AU,AS _ _ e']at heq
   rw[AG _ _ e']at f p
   grind
  ·subst e'
   rw[AU,AS _ _ e]at heq
   rw[AG _ _ e]at hl he
   grind
  ·rw[AS _ _ e,AS _ _ e']at heq
   rw[AG _ _ e]at hl he;rw[AG _ _ e']at f p
   exact h.mp.i q s a r hl f he p heq
theorem Ok.writeO(h:Ok l H m S w)(k:Ac)(y:k.1≤l)(hl:(H k).live=true)(t:(H k).e.isO=true)(e':EK)(n:e'.isO=true)(o:Obj)
  (F:∀b,w'.heap[b]?=if b=(m k).b then some o else w.heap[b]?) (B:w'.heap.size=w.heap.size) (L:HN w' S (m k).b e') (I:w'.os=w.os) (J:w'.tape=w.tape) (K:w'.output=w.output):
  Ok l (updH H k {H k with e:=e' }) m S w'∧Ext l H m S w (updH H k {H k with e:=e' }) m S w':=by
 obtain⟨R,T⟩:=h.mp.c k y hl t
 have j:Ext l H m S w (updH H k {H k with e:=e' }) m S w':=by
  refine⟨fun _ h=>h,fun b s=>?_,fun q d=>?_,fun q d U a=>?_,I,J,K,by omega⟩
  ·grind
  ·by_cases e:q=k
   ·subst e;rw[AN];exact Yp _
   ·rw[AG _ _ e];exact Yp _
  ·by_cases e:q=k
   ·subst e;rw[AN]at a⊢;exact⟨a,rfl,rfl⟩
   ·rw[AG _ _ e]at a⊢;exact⟨a,rfl,rfl⟩
 have f:∀q:Ac,(updH H k {H k with e:=e' } q).live=(H q).live:=fun q=>by
  by_cases e:q=k
  ·subst e;rw[AN]
  ·rw[AG _ _ e]
 have g:∀q:Ac,(H q).e.isO=(updH H k {H k with e:=e' } q).e.isO:=fun q=>by
  by_cases e:q=k
  ·subst e;rw[AN];exact t.trans n.symm
  ·rw[AG _ _ e]
 refine⟨⟨fun b s=>?_,fun q d a r=>?_,fun q d a r=>?_,fun q E d p a c r D heq=>?_,fun q d a r=>?_,
  ⟨fun q d a=>?_,fun q d a he=>?_,fun q E d p a c he n heq=>?_⟩⟩,j⟩
 ·rw[B];exact h.sub b s
 ·rw[f]at a
  have:=h.empty q d a r
  by_cases e:q=k
  ·subst e;rw[AN];exact this
  ·rw[AG _ _ e];exact this
 ·rw[f]at a;exact h.fresh q d a r
 ·rw[f]at a c;exact h.inj q E d p a c r D heq
 ·rw[f]at a
  by_cases e:q=k
  ·grind
  ·rw[AG _ _ e]
   obtain⟨C,s,hs,z,O⟩:=h.blk q d a r
   have A:(m q).b≠(m k).b:=fun u=>by
    obtain⟨V,P,Q⟩:=(h.mp.o k y hl).at t
    rw[u,P]at s;cases s;cases Q
   refine⟨C,by rw[F,Yr A];exact s,hs,z,fun i x v hi N=>?_⟩
   obtain⟨G,g2⟩:=O i x v hi N
   exact⟨G,g2.ext j d⟩
 ·rw[f]at a
  by_cases e:q=k
  ·subst e;rw[AN];exact L
  ·rw[AG _ _ e]
   refine(h.mp.o q d a).mono (fun _ h=>h) j.blk (fun M=>?_)
   rw[F,Yr (fun u=>e (h.mp.i q k d y a hl M t u))]
 ·rw[f]at a;rw[←g]at he;exact h.mp.c q d a he
 ·rw[f]at a c;rw[←g]at he n;exact h.mp.i q E d p a c he n heq
theorem MEnt.mod{q:Bool}{es:List (List D)}{ents:Array MapEntry}{a j:Nat}{s:ByteArray}{ds:List D}{x:MapEntry}{v:Value}(h:MEnt w S q es ents a)(o:ents[j]?=some x)(m:VR w S q ds v):
  MEnt w S q (es.set j (.str s::ds)) (ents.modify j fun e=>{e with key:=.string s,val:=v }) a:=by
 have b:∀(i:Nat) (y:MapEntry),(ents.modify j fun e=>{e with key:=.string s,val:=v })[i]?=some y→∃z,ents[i]?=some z∧y=if j=i then {z with key:=.string s,val:=v }else z:=fun i y hy=>by
  grind
 have c:∀(i:Nat) (z:MapEntry),(if j=i then({z with key:=.string s,val:=v }:MapEntry)else z).born=z.born:=fun i z=>by split<;>rfl
 refine⟨by simp[h.n],fun i k y z hy n e=>?_,fun i y hy=>?_,fun i e y hi hy=>?_⟩
 ·obtain⟨g,a1,rfl⟩:=b i y hy
  obtain⟨p,l,rfl⟩:=b k z n
  rw[c,c]at e
  exact h.born i k _ _ a1 l e
 ·obtain⟨g,a1,rfl⟩:=b i y hy
  rw[c];exact h.clk i _ a1
 ·obtain⟨g,a1,rfl⟩:=b i y hy
  by_cases d:j=i
  ·subst d
   rw[Ys rfl]
   have f:j<es.length:=by rw[←h.n];exact FN a1
   rw[UT,Ys rfl,Ys f]at hi
   cases hi
   exact⟨s,ds,rfl,rfl,m⟩
  ·rw[Yr d]
   rw[UT,Yr d]at hi
   exact h.e i e _ hi a1
theorem MEnt.push{q:Bool}{es:List (List D)}{ents:Array MapEntry}{a:Nat}{s:ByteArray}{ds:List D}{v:Value}(h:MEnt w S q es ents a)(g:VR w S q ds v):
  MEnt w S q (es++[.str s::ds]) (ents.push {key:=.string s,val:=v,born:=a }) (a+1):=by
 have b:∀(i:Nat) (y:MapEntry),(ents.push {key:=.string s,val:=v,born:=a })[i]?=some y→(i=ents.size∧y={key:=.string s,val:=v,born:=a })∨(i≠ents.size∧ents[i]?=some y):=fun i y hy=>by
  grind
 refine⟨by simp[h.n],fun i k y z hy j e=>?_,fun i y hy=>?_,fun i e y hi hy=>?_⟩
 ·rcases b i y hy with⟨rfl,rfl⟩|⟨a1,c⟩<;>rcases b k z j with⟨rfl,rfl⟩|⟨l,f⟩
  ·rfl
  ·have:=h.clk k z f;simp only at e;omega
  ·have:=h.clk i y c;simp only at e;omega
  ·exact h.born i k y z c f e
 ·rcases b i y hy with⟨rfl,rfl⟩|⟨a1,c⟩
  ·grind
  ·exact Nat.lt_succ_of_lt (h.clk i y c)
 ·rcases b i y hy with⟨rfl,rfl⟩|⟨a1,c⟩
  ·rw[h.n,YC (Yp _),Nat.sub_self]at hi
   cases hi
   exact⟨s,ds,rfl,rfl,g⟩
  ·have d:i<es.length:=by rw[←h.n];exact FN c
   rw[Yt d]at hi
   exact h.e i e y hi c
theorem MEnt.del{q:Bool}{es:List (List D)}{ents:Array MapEntry}{a j:Nat}(h:MEnt w S q es ents a)(d:j<ents.size):MEnt w S q (es.eraseIdx j) (ents.eraseIdxIfInBounds j) a:=by
 have f:(ents.eraseIdxIfInBounds j).toList=ents.toList.eraseIdx j:=by
  unfold Array.eraseIdxIfInBounds
  rw[dif_pos d,Array.toList_eraseIdx]
 have b:∀(i:Nat) (y:MapEntry),(ents.eraseIdxIfInBounds j)[i]?=some y→ents[if i<j then i else i+1]?=some y:=fun i y hy=>by
  grind
 have c:∀i k:Nat,(if i<j then i else i+1)=(if k<j then k else k+1)→i=k:=fun i k=>by split<;>split<;>omega
 refine⟨?_,fun i k y z hy g e=>c i k (h.born _ _ _ _ (b i y hy) (b k z g) e),fun i y hy=>h.clk _ _ (b i y hy),fun i e y hi hy=>?_⟩
 ·have:=congrArg List.length f
  rw[YX,List.length_eraseIdx,YX,Ys d]at this
  rw[this,List.length_eraseIdx,Ys (by rw[←h.n];exact d),h.n]
 ·refine h.e _ e y ?_ (b i y hy)
  grind
theorem cL{α:Type}(f:α→Nat)(g:α→Bool):∀(L:List α),(∀(i j:Nat) (x y:α),L[i]?=some x→L[j]?=some y→f x=f y→i=j)→∀(i:Nat) (x:α),(L.filter g)[i]?=some x→L.filter (fun y=>g y&&!(f y==f x))=(L.filter g).eraseIdx i
 |[],_,i,x,h=>by simp at h
 |y::L,d,i,x,h=>by
  have a:∀(i j:Nat) (x y:α),L[i]?=some x→L[j]?=some y→f x=f y→i=j:=fun i j x z hi c e=>L0 (d (i+1) (j+1) x z (by simpa using hi) (by simpa using c) e)
  have hy:∀z∈L,f y≠f z:=fun z l e=>by
   obtain⟨j,c⟩:=YK.1 l
   have:=d 0 (j+1) y z rfl (by simpa using c) e
   omega
  by_cases b:g y=true
  ·rw[mn b]at h⊢
   cases i with
   |zero=>
    simp only[Y7,Yq]at h
    subst h
    rw[UY (by simp),List.eraseIdx_cons_zero]
    apply List.filter_congr
    grind
   |succ i=>
    rw[Im]at h
    have k:x∈L:=(Eh.1 (Yu h)).1
    rw[mn (by simp[b,hy x k]),UX,cL f g L a i x h]
  ·rw[UY b]at h⊢
   rw[UY (by simp[b])]
   exact cL f g L a i x h
end
end Go.Eng
namespace Go.Eng
set_option linter.all false
open Go Go.RowKit
section
variable {P:Program} {l n:Nat} {B:Base} {H H':Hp} {m m':Mu} {S S':Nat→Prop} {w w':World} {s:Nat→AV} {a:Act} {K:St→Prop} {o:Oper}
def Iz:Bool→AV→Option (List D)
 |true,.agg xs=>Cm xs
 |false,x=>(Dj x).map fun d=>[d]
 |_,_=>none
theorem xp{x:AV}{d:D}{v:Value}(h:Dj x=some d)(b:RepA w S H m l x v):RepD w S d v:=by
 cases x<;>simp only[Dj]at h<;>try (cases h;done)
 case d x=>cases h;cases b with|d _ _ a=>exact a
 case e0=>cases h;cases b.e0_d with|d _ _ a=>exact a
theorem ww:∀(xs:List AV) (ds:List D) (vs:List Value),Cm xs=some ds→xs.length=vs.length→(∀(i:Nat) (x:AV) (v:Value),xs[i]?=some x→vs[i]?=some v→RepA w S H m l x v)→ds.length=vs.length∧∀(i:Nat) (d:D) (v:Value),ds[i]?=some d→vs[i]?=some v→RepD w S d v
 |[],ds,[],h,_,_=>by simp only[Cm,Yq]at h;subst h;exact⟨rfl,fun i d v hi=>by simp at hi⟩
 |x::xs,ds,v::vs,h,hl,b=>by
  simp only[Cm]at h
  split at h
  ·rename_i d a f g
   cases h
   obtain⟨a1,e⟩:=ww xs a vs g (L0 hl) (fun i x v k j=>b (i+1) x v (by simpa using k) (by simpa using j))
   refine⟨by simp[a1],fun i d' u hi c=>?_⟩
   cases i with
   |zero=>cases hi;cases c;exact xp f (b 0 x _ rfl rfl)
   |succ i=>exact e i d' u (by simpa using hi) (by simpa using c)
  ·cases h
 |[],_,_::_,_,h,_=>by cases h
 |_::_,_,[],_,h,_=>by cases h
theorem ZyE{q:Bool}{x:AV}{ds:List D}{v:Value}(h:Iz q x=some ds)(a:RepA w S H m l x v):VR w S q ds v:=by
 cases q with
 |true=>
  cases x<;>simp only[Iz]at h<;>try (cases h;done)
  case agg xs=>
   cases a with
   |agg _ vs hl b e=>
    obtain⟨a1,c⟩:=ww xs ds vs.toList h (by simpa using hl) (fun i x v a k=>e i x v a (by simpa using k))
    exact .inl ⟨rfl,vs,rfl,by simpa using a1.symm,fun j d u f g=>c j d u f (by simpa using g)⟩
 |false=>
  have h:(Dj x).map (fun d=>[d])=some ds:=by cases x<;>exact h
  obtain⟨d,b,rfl⟩:=Gl.1 h
  exact .inr ⟨rfl,d,rfl,xp b a⟩
def Qe(l n d:Nat)(e:EK)(x:Nat→AV)(K:St→Prop)(σ:St):Prop:=
 d<n∧K ⟨upd σ.s d (x ((σ.H (l+1,d)).g+1)),updH σ.H (l+1,d) ⟨(σ.H (l+1,d)).g+1,true,e,0,[]⟩⟩
theorem ZlW{t:TypeId}{z:Option Operand}{d:Nat}{q:Bool}(G:o.op=.makeMap t z)(f:o.dst=some d)(r:∃k e,P.underlying t=some (.map k e))(I:∀x,z=some x→∃k i,ev s x=.d (.int k i))
  (A:Qe l n d (.m q []) (fun g=>.mp (l+1,d) g) K ⟨s,H⟩):BM P l n B o K ⟨s,H⟩:=by
 intro a w E Q
 obtain⟨m,S,D,F,p,C,he⟩:=E.un
 obtain⟨O,N,r⟩:=r
 have c:(execOp a.eval o).run P w=.ok (.value (.map (some w.heap.size))) (w.alloc (.map #[] 0)):=by
  simp only[execOp,G]
  cases z with
  |none=>simp[Instr.makeMap]
  |some x=>
   obtain⟨k,i,J⟩:=I x rfl
   have b:=BT C x
   rw[J]at b
   have u:a.eval x=.int k i:=by
    generalize a.eval x=v at b
    cases b with|d _ _ f=>cases f;rfl
   simp[Instr.makeMap,run_underlying r,asInt,asIntOf,u]
 obtain⟨L,M⟩:=D.allocO (l+1,d) (Yp _) ⟨(H (l+1,d)).g+1,true,.m q [],0,[]⟩ rfl rfl (Dc _) (.map #[] 0) (w':=w.alloc (.map #[] 0)) rfl
  ⟨#[],0,by rw[Gx,Ys rfl],⟨rfl,fun i j x y h=>by simp at h,fun i x h=>by simp at h,fun i e x h=>by simp at h⟩⟩ rfl rfl rfl
 refine Cc c ?_
 rw[f]
 refine⟨_,A.2,R.step L F p C he M A.1 ?_⟩
 have:=RepA.mpL (w:=w.alloc (.map #[] 0)) (S:=S) (H:=updH H (l+1,d) ⟨(H (l+1,d)).g+1,true,.m q [],0,[]⟩) (m:=A1 m (l+1,d) ⟨w.heap.size,0,0⟩) (l:=l+1) (l+1,d) (Yp _) (by rw[AN])
 rw[AN,AU]at this
 exact this
theorem M1{w:World}{r:Nat}{a:Array MapEntry}{c:Nat}(h:w.heap[r]?=some (.map a c))(b:Obj):(setObj r b).run P w=.ok () (ChangeMaps.setBlock w r b):=by
 simp[setObj,Sem.run,h,ChangeMaps.setBlock]
theorem EE{w:World}{r:Nat}{d:Obj}(h:w.heap[r]?=some d)(a:Obj)(b:Nat):(ChangeMaps.setBlock w r a).heap[b]?=if b=r then some a else w.heap[b]?:=by
 have c:=FN h
 simp only[ChangeMaps.setBlock,LY]
 grind
theorem vV(a b:ByteArray)(h:a=b):(Instr.keyThatStays (.string a) (.string b)).run P w=.ok (.string b) w:=by
 subst h
 have:Instr.sameBits 10000 (.string a) (.string a)=true:=by simp only[Instr.sameBits,ej,YE]
 simp[Instr.keyThatStays,this]
theorem ZsZ{t:TypeId}{q:Bool}{z:List D}{k:Ac}{es:List (List D)}{sk:ByteArray}{ds:List D}{v:Value}(I:GG P t=some (q,z))(u:Ok (l+1) H m S w)(A:k.1≤l+1)(hl:(H k).live=true)(he:(H k).e=.m q es)(E:VR w S q ds v):
  ∃w',(Instr.mapUpdate t (.map (some (m k).b)) (.string sk) v).run P w=.ok () w'∧Ok (l+1) (updH H k {H k with e:=.m q (CW sk ds es) }) m S w'∧Ext (l+1) H m S w (updH H k {H k with e:=.m q (CW sk ds es) }) m S w':=by
 obtain⟨Q,O,C,f,_,_⟩:=Nn I
 have B:=u.mp.o k A hl
 rw[he]at B
 obtain⟨ents,d,g,p⟩:=B
 have n:(H k).e.isO=true:=by rw[he];rfl
 obtain⟨K,y⟩:=u.mp.c k A hl n
 have fin:∀(c:Array MapEntry) (a:Nat),MEnt w S q (CW sk ds es) c a→Ok (l+1) (updH H k {H k with e:=.m q (CW sk ds es) }) m S (ChangeMaps.setBlock w (m k).b (.map c a))∧Ext (l+1) H m S w (updH H k {H k with e:=.m q (CW sk ds es) }) m S (ChangeMaps.setBlock w (m k).b (.map c a)):=fun c a hm=>
  u.writeO k A hl n (.m q (CW sk ds es)) rfl (.map c a) (EE g _) (by simp[ChangeMaps.setBlock])
   ⟨c,a,by rw[EE g];simp,hm.mono (fun _ h=>h) (fun b J=>by rw[EE g,Yr];rintro rfl;exact y J)⟩ rfl rfl rfl
 rcases SF (w:=w) (S:=S) (q:=q) (s:=sk) es ents.toList 0 (by simp[p.n]) (fun i e x hi L=>p.e i e x hi (by simpa using L))with⟨a1,r,a3,_⟩|⟨j,x',G,a1,r,a3,a4,a5,F,M,N⟩
 ·refine⟨ChangeMaps.setBlock w (m k).b (.map (ents.push {key:=.string sk,val:=v,born:=d }) (d+1)),?_,?_⟩
  ·simp[Instr.mapUpdate,run_underlying C,MapKept.run_getObj_map g,MapKept.run_checkKey f (show MapKept.IsKey .string (.string sk)from trivial),MapKept.run_findKey f r,M1 g]
  ·rw[a3 ds]at fin⊢
   exact fin _ _ (p.push E)
 ·have o:ents[0+j]?=some x':=by simpa using r
  refine⟨ChangeMaps.setBlock w (m k).b (.map (ents.modify (0+j) fun e=>{e with key:=.string sk,val:=v }) d),?_,?_⟩
  ·simp[Instr.mapUpdate,run_underlying C,MapKept.run_getObj_map g,MapKept.run_checkKey f (show MapKept.IsKey .string (.string sk)from trivial),MapKept.run_findKey f a1,o,a3,vV,M1 g]
   simp only[YP]at o
   simp[o,a3,vV,M1 g]
  ·rw[F ds]at fin⊢
   simp only[YP]at o⊢
   exact fin _ _ (p.mod o E)
theorem Nf{k:Ac}{g:Nat}{v:Value}(h:RepA w S H m l (.mp k g) v)(b:g=(H k).g)(hl:(H k).live=true):k.1≤l∧v=.map (some (m k).b):=by
 cases h with
 |mpL _ c _=>exact⟨c,rfl⟩
 |mpD _ _ _ _ _ a _=>rw[a b]at hl;cases hl
theorem ZkS{t:TypeId}{p c r:Operand}{k:Ac}{g:Nat}{q:Bool}{z:List D}{es:List (List D)}{sk:ByteArray}{ds:List D}(j:o.op=.mapUpdate t p c r∨o.op=.insert t p c r)(u:o.dst=none)(G:GG P t=some (q,z))
  (hm:ev s p=.mp k g) (I:g=(H k).g) (hl:(H k).live=true) (he:(H k).e=.m q es) (J:ev s c=.d (.str sk)) (M:Iz q (ev s r)=some ds)
  (C:K ⟨s,updH H k {H k with e:=.m q (CW sk ds es) }⟩):BM P l n B o K ⟨s,H⟩:=by
 intro a w F Q
 obtain⟨m,S,E,L,x,i,y⟩:=F.un
 have f:=BT i p
 rw[hm]at f
 obtain⟨N,O⟩:=Nf f I hl
 have b:=BT i c
 rw[J]at b
 have A:a.eval c=.string sk:=by
  generalize a.eval c=v at b
  cases b with|d _ _ u=>cases u;rfl
 obtain⟨w',T,U,V⟩:=ZsZ (sk:=sk) G E N hl he (ZyE M (BT i r))
 have h:(execOp a.eval o).run P w=.ok .skip w':=by
  rcases j with j|j<;>simp[execOp,j,O,A,T]
 unfold Oper.wp
 rw[h]
 simp only[Oper.upon,u,Act.put]
 exact⟨_,C,R.keep U L x i y V⟩
theorem ZoJ{t t':TypeId}{V G:Operand}{k:Ac}{g:Nat}{q:Bool}{z:List D}{es:List (List D)}{sk:ByteArray}(X:o.op=.call ⟨.builtin .delete,#[V,G],#[t,t']⟩)(N:o.dst=none)(hT:GG P t=some (q,z))
  (hm:ev s V=.mp k g) (hg:g=(H k).g) (hl:(H k).live=true) (he:(H k).e=.m q es) (hk:ev s G=.d (.str sk))
  (hK:K ⟨s,updH H k {H k with e:=.m q (CV sk es) }⟩):BM P l n B o K ⟨s,H⟩:=by
 intro a w hR Q
 obtain⟨m,S,J,hn,O,L,T⟩:=hR.un
 have E:=BT L V
 rw[hm]at E
 obtain⟨U,Z⟩:=Nf E hg hl
 have y:=BT L G
 rw[hk]at y
 have C:a.eval G=.string sk:=by
  generalize a.eval G=v at y
  cases y with|d _ _ N=>cases N;rfl
 obtain⟨kt,et,Y,r,_,_⟩:=Nn hT
 have F:=J.mp.o k U hl
 rw[he]at F
 obtain⟨ents,p,u,I⟩:=F
 have A:(H k).e.isO=true:=by rw[he];rfl
 obtain⟨hc1,M⟩:=J.mp.c k U hl A
 have fin:∀(f:Array MapEntry) (c:Nat),MEnt w S q (CV sk es) f c→Ok (l+1) (updH H k {H k with e:=.m q (CV sk es) }) m S (ChangeMaps.setBlock w (m k).b (.map f c))∧Ext (l+1) H m S w (updH H k {H k with e:=.m q (CV sk es) }) m S (ChangeMaps.setBlock w (m k).b (.map f c)):=fun f c hm=>
  J.writeO k U hl A (.m q (CV sk es)) rfl (.map f c) (EE u _) (by simp[ChangeMaps.setBlock])
   ⟨f,c,by rw[EE u];simp,hm.mono (fun _ h=>h) (fun b hb=>by rw[EE u,Yr];rintro rfl;exact M hb)⟩ rfl rfl rfl
 have key:∃w',(execOp a.eval o).run P w=.ok (.value (.tuple #[])) w'∧Ok (l+1) (updH H k {H k with e:=.m q (CV sk es) }) m S w'∧Ext (l+1) H m S w (updH H k {H k with e:=.m q (CV sk es) }) m S w':=by
  rcases SF (w:=w) (S:=S) (q:=q) (s:=sk) es ents.toList 0 (by simp[I.n]) (fun i e x hi hx=>I.e i e x hi (by simpa using hx))with⟨a1,W,_,a4⟩|⟨j,x',ds',a1,W,a3,a4,a5,a6,a7,a8⟩
  ·refine⟨ChangeMaps.setBlock w (m k).b (.map ents p),?_,?_⟩
   ·simp[execOp,X,resolve,invoke,Go.builtin,Z,C,Builtin.delete_,run_underlying Y,MapKept.run_getObj_map u,MapKept.run_checkKey r (show MapKept.IsKey .string (.string sk)from trivial),MapKept.run_findKey r W,M1 u]
   grind
  ·have hj:j<ents.size:=by
    grind
   refine⟨ChangeMaps.setBlock w (m k).b (.map (ents.eraseIdxIfInBounds (0+j)) p),?_,?_⟩
   ·simp[execOp,X,resolve,invoke,Go.builtin,Z,C,Builtin.delete_,run_underlying Y,MapKept.run_getObj_map u,MapKept.run_checkKey r (show MapKept.IsKey .string (.string sk)from trivial),MapKept.run_findKey r a1,M1 u]
   ·rw[a7]at fin⊢
    simp only[YP]
    exact fin _ _ (I.del hj)
 obtain⟨w',r1,r2,r3⟩:=key
 refine Cc r1 ?_
 rw[N]
 exact⟨_,hK,R.keep r2 hn O L T r3⟩
theorem Zrr{t:TypeId}{x:Operand}{d:Nat}{q:Bool}{es:List (List D)}(I:o.op=.range t x)(j:o.dst=some d)(y:∃k e,P.underlying t=some (.map k e))(T:ev s x=.d (.map q es))
  (E:Qe l n d (.i q es none) (fun g=>.ptr (l+1,d) g 0) K ⟨s,H⟩):BM P l n B o K ⟨s,H⟩:=by
 intro a w M Q
 obtain⟨m,S,F,O,A,G,he⟩:=M.un
 obtain⟨X,W,y⟩:=y
 have f:=BT G x
 rw[T]at f
 have key:∃i,(execOp a.eval o).run P w=.ok (.value (.pointer (some ⟨w.heap.size,0,none⟩))) (w.alloc i)∧tA (w.alloc i) S w.heap.size q es none:=by
  generalize J:a.eval x=v at f
  cases f with
  |d _ _ j=>
   cases v with
   |map r=>
    cases r with
    |none=>
     cases j
     refine⟨.mapIter none 0 #[] 0,?_,.inl ⟨rfl,rfl,0,#[],0,by rw[Gx,Ys rfl]⟩⟩
     simp[execOp,I,J,Instr.range,run_underlying y]
    |some r=>
     obtain⟨hs,ents,c,z,C⟩:=j.toM
     refine⟨.mapIter (some r) c #[] c,?_,.inr ⟨r,ents,c,es,#[],by rw[Gx,Ys rfl],hs,?_,?_,?_,fun e h=>by cases h⟩⟩
     ·simp[execOp,I,J,Instr.range,run_underlying y,MapKept.run_getObj_map z]
     ·rw[Gx,Yr (by have:=FN z;omega)];exact z
     ·exact C.mono (fun _ h=>h) (fun b N=>by rw[Gx,Yr (by have:=F.sub b N;omega)])
     ·have:((ents.toList.zip es).filter (fun p=>!(#[]:Array Nat).contains p.1.born))=ents.toList.zip es:=by
       rw[LU];intro p _;simp
      rw[this,List.map_snd_zip]
      simp[C.n]
   |_=>cases j
 obtain⟨i,u,L⟩:=key
 obtain⟨U,V⟩:=F.allocO (l+1,d) (Yp _) ⟨(H (l+1,d)).g+1,true,.i q es none,0,[]⟩ rfl rfl (Dc _) i (w':=w.alloc i) rfl L rfl rfl rfl
 refine Cc u ?_
 rw[j]
 refine⟨_,E.2,R.step U O A G he V E.1 ?_⟩
 have:=RepA.ptrL (w:=w.alloc i) (S:=S) (H:=updH H (l+1,d) ⟨(H (l+1,d)).g+1,true,.i q es none,0,[]⟩) (m:=A1 m (l+1,d) ⟨w.heap.size,0,0⟩) (l:=l+1) (l+1,d) 0 (Yp _) (by rw[AN])
 rw[AN,AU]at this
 exact this
def la(q:Bool):List D→AV
 |.str k::ds=>.tup [.d (.bool true),.d (.str k),Gc q ds]
 |_=>.top
theorem dm{α β:Type}(f:α→β):∀(L:List α) (i:Nat),(L.eraseIdx i).map f=(L.map f).eraseIdx i
 |[],i=>by simp
 |x::L,0=>rfl
 |x::L,i+1=>by simp only[UX,Y9,dm f L i]
theorem ku{α β:Type}{xs:List α}{ys:List β}{i:Nat}{p:α×β}(h:(xs.zip ys)[i]?=some p):xs[i]?=some p.1∧ys[i]?=some p.2:=by
 grind
theorem Zxo{x:Operand}{d:Nat}{k:Ac}{g:Nat}{q:Bool}{rest:List (List D)}{cur:Option (List D)}(ho:o.op=.next x false)(hd:o.dst=some d)(f:ev s x=.ptr k g 0)(hg:g=(H k).g)(hl:(H k).live=true)(he:(H k).e=.i q rest cur)(G:d<n)
  (h0:rest=[]→K ⟨upd s d (.tup [.d (.bool false)]),H⟩)
  (h1:∀(i:Nat) (e:List D),rest[i]?=some e→K ⟨upd s d (la q e),updH H k {H k with e:=.i q (rest.eraseIdx i) (some e) }⟩):BM P l n B o K ⟨s,H⟩:=by
 intro a w hR Q
 obtain⟨m,S,X,hn,F,hS,I⟩:=hR.un
 have U:=BT hS x
 rw[f]at U
 have M:k.1≤l+1∧a.eval x=.pointer (some ⟨(m k).b,(m k).o,none⟩):=by
  generalize a.eval x=v at U
  cases U with
  |ptrL _ _ M _=>exact⟨M,by simp⟩
  |ptrD _ _ _ _ _ _ hd _=>rw[hd hg]at hl;cases hl
 obtain⟨M,A⟩:=M
 have W:(H k).e.isO=true:=by rw[he];rfl
 obtain⟨⟨hc0,hc1⟩,Z⟩:=X.mp.c k M hl W
 rw[hc1]at A
 have hob:=X.mp.o k M hl
 rw[he]at hob
 rcases hob with⟨e1,e2,u1,u2,u3,e3⟩|⟨r,ents,c,es,seen,b1,b2,b3,V,b5,b6⟩
 ·refine Cc (v:=.tuple #[.bool false]) (w':=w) ?_ ?_
  ·simp[execOp,ho,A,Instr.next,getObj,Sem.run,e3]
  ·rw[hd]
   exact⟨_,h0 e1,R.step X hn F hS I (Ext.refl _ _ _ _ _) G (.tup _ _ rfl (fun i x v f T=>by
    match i with
    |0=>cases f;cases T;exact .d _ _ (.bool _)
    |i+1=>simp at f))⟩
 ·have E:∀(i j:Nat) (x y:MapEntry×List D),(ents.toList.zip es)[i]?=some x→(ents.toList.zip es)[j]?=some y→x.1.born=y.1.born→i=j:=fun i j x y f hy e=>
   V.born i j x.1 y.1 (by simpa using(ku f).1) (by simpa using(ku hy).1) e
  have N:∀e:MapEntry,e∈(leftOf ents seen).toList→∃(i:Nat) (d:List D),((ents.toList.zip es).filter (fun p=>!seen.contains p.1.born))[i]?=some (e,d):=fun e hm=>by
   have hm:e∈ents.toList∧(!seen.contains e.born)=true:=by simpa[leftOf]using hm
   obtain⟨j,hj⟩:=YK.1 hm.1
   have hlt:j<es.length:=by rw[←V.n];rw[Yz]at hj;exact FN hj
   have hz:(e,es[j])∈ents.toList.zip es:=YK.2 ⟨j,List.getElem?_zip_eq_some.2 ⟨hj,Yh hlt⟩⟩
   obtain⟨i,hi⟩:=YK.1 ((Eh (p:=fun p:MapEntry×List D=>!seen.contains p.1.born)).2 ⟨hz,hm.2⟩)
   grind
  rcases run_next_at (P:=P) w o.type (m k).b r c c seen ents c b1 b3 (fun x f=>by
    obtain⟨i,hi⟩:=YK.1 f
    exact V.clk i x (by simpa using hi)) (Yp _)with⟨c1,c2⟩|⟨e,c1,C,c2,c3⟩
  ·have O:rest=[]:=by
    rw[b5,UP,mq]
    intro p hp hb
    obtain⟨i,hi⟩:=YK.1 hp
    have:p.1∈(leftOf ents seen).toList:=by
     simp only[leftOf,Array.toList_filter,Eh]
     grind
    grind
   refine Cc (v:=.tuple #[.bool false]) (w':=w) ?_ ?_
   ·simp[execOp,ho,A,c2]
   ·rw[hd]
    exact⟨_,h0 O,R.step X hn F hS I (Ext.refl _ _ _ _ _) G (.tup _ _ rfl (fun i x v f T=>by
     match i with
     |0=>cases f;cases T;exact .d _ _ (.bool _)
     |i+1=>simp at f))⟩
  ·obtain⟨i,d',hi⟩:=N e c1
   have hzip:=Eh.1 (Yu hi)
   obtain⟨j,hj⟩:=YK.1 hzip.1
   obtain⟨J,L⟩:=ku hj
   simp only[Yz]at J L
   obtain⟨sk,ds,q1,q2,q3⟩:=V.e j _ _ L J
   subst q1
   have hri:rest[i]?=some (.str sk::ds):=by rw[b5,YO,hi];rfl
   have hre:rest.eraseIdx i=((ents.toList.zip es).filter (fun p=>!(seen.push e.born).contains p.1.born)).map (·.2):=by
    rw[b5]
    have:=cL (fun p:MapEntry×List D=>p.1.born) (fun p=>!seen.contains p.1.born) (ents.toList.zip es) E i _ hi
    rw[←dm,←this]
    grind
   have t:C.heap=w.heap∧C.os=w.os∧C.tape=w.tape∧C.output=w.output:=by rcases c2 with rfl|rfl<;>exact⟨rfl,rfl,rfl,rfl⟩
   have Y:=X.drew (w':=C) t.1 t.2.1 t.2.2.1 t.2.2.2
   have z:C.heap[(m k).b]?=some (.mapIter (some r) c seen c):=by rw[t.1];exact b1
   obtain⟨k1,k2⟩:=Y.1.writeO k M hl W (.i q (rest.eraseIdx i) (some (.str sk::ds))) rfl (.mapIter (some r) c (seen.push e.born) c) (w':=ChangeMaps.setBlock C (m k).b (.mapIter (some r) c (seen.push e.born) c))
    (EE z _) (by simp[ChangeMaps.setBlock]) (.inr ⟨r,ents,c,es,seen.push e.born,by rw[EE z];simp,b2,by rw[EE z,Yr (by rintro rfl;exact Z b2),t.1];exact b3,
     V.mono (fun _ h=>h) (fun b hb=>by rw[EE z,Yr (by rintro rfl;exact Z hb),t.1]),hre,fun e' he'=>by cases he';exact⟨j,e,L,J,by simp⟩⟩) rfl rfl rfl
   have u:=Y.2.trans k2
   refine Cc (v:=.tuple #[.bool true,e.key,e.val]) (w':=ChangeMaps.setBlock C (m k).b (.mapIter (some r) c (seen.push e.born) c)) ?_ ?_
   ·simp[execOp,ho,A,c3]
   ·rw[hd]
    refine⟨_,h1 i _ hri,R.step k1 hn F hS I u G ?_⟩
    simp only[la]
    refine .tup _ _ rfl (fun i x v f T=>?_)
    match i with
    |0=>cases f;cases T;exact .d _ _ (.bool _)
    |1=>cases f;cases T;rw[q2];exact .d _ _ (.str _)
    |2=>cases f;cases T;exact RQ (q3.mono u.s u.blk)
    |i+3=>simp at f
def HU(z:ByteArray)(p:Nat):Int:=((Utf8.decode z p).1:Nat)
def Eb(z:ByteArray)(p:Nat):Nat:=(Utf8.decode z p).2
theorem Zox{t:TypeId}{x:Operand}{d:Nat}{z:ByteArray}(q:o.op=.range t x)(e:o.dst=some d)(r:P.underlying t=some .string)(y:ev s x=.d (.str z))
  (h:Qe l n d (.s z 0) (fun g=>.ptr (l+1,d) g 0) K ⟨s,H⟩):BM P l n B o K ⟨s,H⟩:=by
 intro a w k Q
 obtain⟨m,S,j,p,f,i,he⟩:=k.un
 have b:=BT i x
 rw[y]at b
 have c:(execOp a.eval o).run P w=.ok (.value (.pointer (some ⟨w.heap.size,0,none⟩))) (w.alloc (.stringIter z 0)):=by
  generalize u:a.eval x=v at b
  cases b with
  |d _ _ e=>
   cases e
   simp[execOp,q,u,Instr.range,run_underlying r]
 obtain⟨A,C⟩:=j.allocO (l+1,d) (Yp _) ⟨(H (l+1,d)).g+1,true,.s z 0,0,[]⟩ rfl rfl (Dc _) (.stringIter z 0) (w':=w.alloc (.stringIter z 0)) rfl (by show(w.alloc _).heap[w.heap.size]?=_;rw[Gx,Ys rfl]) rfl rfl rfl
 refine Cc c ?_
 rw[e]
 refine⟨_,h.2,R.step A p f i he C h.1 ?_⟩
 have:=RepA.ptrL (w:=w.alloc (.stringIter z 0)) (S:=S) (H:=updH H (l+1,d) ⟨(H (l+1,d)).g+1,true,.s z 0,0,[]⟩) (m:=A1 m (l+1,d) ⟨w.heap.size,0,0⟩) (l:=l+1) (l+1,d) 0 (Yp _) (by rw[AN])
 rw[AN,AU]at this
 exact this
theorem Zs1{x:Operand}{d:Nat}{k:Ac}{g:Nat}{z:ByteArray}{p:Nat}(I:o.op=.next x true)(C:o.dst=some d)(c:ev s x=.ptr k g 0)(T:g=(H k).g)(hl:(H k).live=true)(he:(H k).e=.s z p)(t:d<n)
  (J:¬p<z.size→K ⟨upd s d (.tup [.d (.bool false)]),H⟩)
  (L:p<z.size→K ⟨upd s d (.tup [.d (.bool true),.d (.int .i64 (p:Int)),.d (.int .i32 (HU z p))]),updH H k {H k with e:=.s z (p+Eb z p) }⟩):BM P l n B o K ⟨s,H⟩:=by
 intro a w M Q
 obtain⟨m,S,A,G,r,E,u⟩:=M.un
 have j:=BT E x
 rw[c]at j
 have h:k.1≤l+1∧a.eval x=.pointer (some ⟨(m k).b,(m k).o,none⟩):=by
  generalize a.eval x=v at j
  cases j with
  |ptrL _ _ h _=>exact⟨h,by simp⟩
  |ptrD _ _ _ _ _ _ C _=>rw[C T]at hl;cases hl
 obtain⟨h,f⟩:=h
 have q:(H k).e.isO=true:=by rw[he];rfl
 obtain⟨⟨N,F⟩,O⟩:=A.mp.c k h hl q
 rw[F]at f
 have b:=A.mp.o k h hl
 rw[he]at b
 have b:w.heap[(m k).b]?=some (.stringIter z p):=b
 by_cases D:p<z.size
 ·obtain⟨U,V⟩:=A.writeO k h hl q (.s z (p+Eb z p)) rfl (.stringIter z (p+Eb z p)) (w':=ChangeMaps.setBlock w (m k).b (.stringIter z (p+Eb z p))) (EE b _) (by simp[ChangeMaps.setBlock]) (by show(ChangeMaps.setBlock _ _ _).heap[_]?=_;rw[EE b,Ys rfl]) rfl rfl rfl
  refine Cc (v:=.tuple #[.bool true,goInt p,.int .i32 (HU z p)]) (w':=ChangeMaps.setBlock w (m k).b (.stringIter z (p+Eb z p))) ?_ ?_
  ·simp[execOp,I,f,Instr.next,getObj,setObj,Sem.run,b,D,ChangeMaps.setBlock,HU,Eb]
  ·rw[C]
   refine⟨_,L D,R.step U G r E u V t ?_⟩
   refine .tup _ _ rfl (fun i x v c y=>?_)
   match i with
   |0=>cases c;cases y;exact .d _ _ (.bool _)
   |1=>cases c;cases y;exact .d _ _ (.int _ _)
   |2=>cases c;cases y;exact .d _ _ (.int _ _)
   |i+3=>simp at c
 ·refine Cc (v:=.tuple #[.bool false]) (w':=w) ?_ ?_
  ·simp[execOp,I,f,Instr.next,getObj,Sem.run,b,D]
  ·rw[C]
   exact⟨_,J D,R.step A G r E u (Ext.refl _ _ _ _ _) t (.tup _ _ rfl (fun i x v c y=>by
    match i with
    |0=>cases c;cases y;exact .d _ _ (.bool _)
    |i+1=>simp at c))⟩
theorem ZsR{x:Operand}{d:Nat}{k:Ac}{g:Nat}{q:Bool}{rest:List (List D)}{sk:ByteArray}{ds:List D}(ho:o.op=.entry x)(L:o.dst=some d)(E:ev s x=.ptr k g 0)(hg:g=(H k).g)(hl:(H k).live=true)(he:(H k).e=.i q rest (some (.str sk::ds)))(N:d<n)
  (hK:K ⟨upd s d (.tup [.d (.str sk),Gc q ds]),updH H k {H k with e:=.i q rest none }⟩):BM P l n B o K ⟨s,H⟩:=by
 intro a w hR Q
 obtain⟨m,S,I,hn,M,X,T⟩:=hR.un
 have t:=BT X x
 rw[E]at t
 have h:k.1≤l+1∧a.eval x=.pointer (some ⟨(m k).b,(m k).o,none⟩):=by
  generalize a.eval x=v at t
  cases t with
  |ptrL _ _ h _=>exact⟨h,by simp⟩
  |ptrD _ _ _ _ _ _ L _=>rw[L hg]at hl;cases hl
 obtain⟨h,z⟩:=h
 have u:(H k).e.isO=true:=by rw[he];rfl
 obtain⟨⟨hc0,J⟩,hc2⟩:=I.mp.c k h hl u
 rw[J]at z
 have A:=I.mp.o k h hl
 rw[he]at A
 rcases A with⟨e1,e2,_⟩|⟨r,ents,c,es,seen,V,b2,W,F,b5,b6⟩
 ·cases e2
 ·obtain⟨i,x',c1,G,c3⟩:=b6 _ rfl
  obtain⟨sk',ds',q1,q2,q3⟩:=F.e i _ _ c1 G
  cases q1
  have f:ents.find? (fun y=>y.born==x'.born)=some x':=by
   rw[←Array.find?_toList]
   refine find_born x' ents.toList ?_ (by rw[←Yz]at G;exact Yu G)
   rw[List.nodup_iff_pairwise_ne,List.pairwise_iff_getElem]
   intro i j hi Y hij e
   rw[YL]at hi Y
   have Z:=Yh hi
   have C:=Yh Y
   rw[Yz]at Z C
   have:=F.born i j _ _ Z C (by simpa using e)
   omega
  have p:∀b,w.heap[b]?=if b=(m k).b then some (.mapIter (some r) c seen c)else w.heap[b]?:=fun b=>by
   grind
  obtain⟨k1,U⟩:=I.writeO k h hl u (.i q rest none) rfl (.mapIter (some r) c seen c) (w':=w) p rfl (.inr ⟨r,ents,c,es,seen,V,b2,W,F,b5,fun e' O=>by cases O⟩) rfl rfl rfl
  refine Cc (v:=.tuple #[x'.key,x'.val]) (w':=w) ?_ ?_
  ·simp[execOp,ho,z,Instr.entry,getObj,Sem.run,V,W,c3,f]
  ·rw[L]
   refine⟨_,hK,R.step k1 hn M X T U N (.tup _ _ rfl (fun i x v E C=>?_))⟩
   match i with
   |0=>cases E;cases C;rw[q2];exact .d _ _ (.str _)
   |1=>cases E;cases C;exact RQ (q3.mono U.s U.blk)
   |i+2=>simp at E
end
def sC(x:EK)(e:Nat):Bool:=
 match x with
 |.t e'=>Nat.beq e' e
 |_=>false
theorem ZGm{x:EK}{e:Nat}(h:sC x e=true):x=.t e:=by
 cases x with
 |t e'=>rw[Yc (show Nat.beq e' e=true from h)]
 |_=>cases h
def Bq(a b:Ac):Bool:=Nat.beq a.1 b.1&&Nat.beq a.2 b.2
def AV.onef:AV→Bool
 |.top|.agg _|.tup _|.fn _ _ _=>false
 |_=>true
def D4(sz:Nat)(C:List AV)(y:AV)(c:Nat)(news:List AV):Prop:=
 news.all AV.onef=true∧match y with
 |.e0=>c=0∧news=[]
 |.d (.list es)=>(∀e∈es,e.length=sz)∧c=es.length∧news=es.flatten.map .d
 |.ref _ _ off n=>c=n∧(off+n)*sz≤C.length∧news=(C.drop (off*sz)).take (n*sz)
 |_=>False
def IK(C:List AV)(off a c sz byt:Nat)(news d:List AV)(b:Nat):Prop:=(off+a)*sz=C.length∧C.drop (off*sz)++news=d∧a+c=b∧b*byt≤140737488355328
def MQ(c byt:Nat):Prop:=c*byt≤140737488355328
def JC(r:Ren)(k:Ac):Prop:=k.1=0∧r.no (r.κ k)
def EW(r:Ren)(k:Ac)(vs:List AV):Prop:=(Am r vs).all (AV.low (r.κ k).1)=true
def Gg(r:Ren)(k:Ac)(vs:List AV)(A:Prop):Prop:=
 match Nat.beq k.1 1 with
 |true=>A
 |false=>JC r k∧EW r k vs∧A
def G4(C:List AV)(off:Nat)(vs a:List AV):Prop:=off+vs.length≤C.length∧C.take off++vs++C.drop (off+vs.length)=a
def Hs(n d:Nat)(e:TypeId)(sz:Nat)(cells:List AV)(x:Nat→AV)(K:St→AT→Prop)(τ:St)(a:AT):Prop:=
 match Nat.ble (d+1) n with
 |true=>K ⟨upd τ.s d (x ((τ.H (1,d)).g+1)),updH τ.H (1,d) ⟨(τ.H (1,d)).g+1,true,e,sz,cells⟩⟩ a
 |false=>False
def cellsOf(H:Hp):AV→List AV
 |.ref k g _ _=>match Bt H k g with|true=>(H k).cells|false=>[]
 |_=>[]
def SP(H:Hp)(sz:Nat):AV→Bool
 |.ref k g _ _=>Bt H k g&&Nat.beq (H k).sz sz
 |_=>true
def ZY(T:Nat→Option TI)(r:Ren)(n d:Nat)(t:TypeId)(x y:AV)(a:AT)(K:St→AT→Prop)(τ:St):Prop:=
 match T t with
 |some i=>match i.elm with
  |some (e,sz)=>match T e,Nat.ble 1 sz,SP τ.H sz y with
   |some j,true,true=>(match j.byt,j.zer,x,a with
    |some byt,some _,.e0,.nat c (.cs news b)=>D4 sz (cellsOf τ.H y) y c news∧MQ c byt∧Hs n d e sz news (fun g=>.ref (1,d) g 0 c) K τ b
    |some byt,some _,.ref k q off l,.nat c (.cs news (.cs f (.nat h b)))=>(match Bt τ.H k q,Nat.beq (τ.H k).sz sz,sC (τ.H k).e e,Nat.ble (d+1) n with
     |true,true,true,true=>D4 sz (cellsOf τ.H y) y c news∧IK (τ.H k).cells off l c sz byt news f h∧Gg r k news (K ⟨upd τ.s d (.ref k (q+1) 0 h),updH τ.H k ⟨q+1,true,e,sz,f⟩⟩ b)
     |_,_,_,_=>False)
    |_,_,_,_=>False)
   |_,_,_=>False
  |none=>False
 |none=>False
def NJ(r:Ren)(n:Nat)(i:TI)(x:AV)(vs:Option (List AV))(a:AT)(K:St→AT→Prop)(τ:St):Prop:=
 match x,vs with
 |.ptr k q off,some vs=>match Bt τ.H k q,Nat.beq vs.length i.siz,Nat.ble 1 vs.length with
  |true,true,true=>(match a with
   |.go b=>(match Nat.ble (off+vs.length) (τ.H k).cells.length with
    |true=>Gg r k vs (K ⟨τ.s,updH τ.H k ⟨q,true,(τ.H k).e,(τ.H k).sz,(τ.H k).cells.take off++vs++(τ.H k).cells.drop (off+vs.length)⟩⟩ b)
    |false=>False)
   |.cs c b=>G4 (τ.H k).cells off vs c∧Gg r k vs (K ⟨τ.s,updH τ.H k ⟨q,true,(τ.H k).e,(τ.H k).sz,c⟩⟩ b)
   |_=>False)
  |_,_,_=>False
 |_,_=>False
def mg(c a:Int)(byt m:Nat)(z C:List AV):Prop:=c=(m:Int)∧c≤a∧(byt:Int)*a≤140737488355328∧(List.replicate m z).flatten=C
def IZ(P:Program)(T:Nat→Option TI)(l n:Nat)(r:Ren)(o:Oper)(a:AT)(K:St→AT→Prop)(τ:St):Prop:=
 match o.op with
 |.alloc t=>match o.dst,T t with
  |some d,some i=>(match i.zer with|some (z::f)=>Hs n d t (f.length+1) (z::f) (fun g=>.ptr (1,d) g 0) K τ a|_=>False)
  |_,_=>False
 |.box t x=>match o.dst,Cu (ev τ.s x),HM (ev τ.s x)with
  |some d,some (z::f),true=>Hs n d t (f.length+1) (z::f) (fun g=>.ptr (1,d) g 0) K τ a
  |_,_,_=>False
 |.store t p x=>match o.dst,T t,HM (ev τ.s x)with
  |none,some i,true=>NJ r n i (ev τ.s p) (Cu (ev τ.s x)) a K τ
  |_,_,_=>False
 |.buildSlice t len parts=>match o.dst,T t with
  |some d,some i=>(match i.elm with
   |some (e,sz)=>(match Nat.ble 1 sz,len with
    |true,0=>(match parts.toList with|[]=>Es n d K τ .e0 a|_=>False)
    |true,len+1=>(match T e,Nat.ble ((len+1)*sz) 16777216 with
     |some j,true=>(match j.zer with
      |some z=>(match Nat.beq z.length sz,EZ sz 0 (parts.toList.map fun p=>(p.1,ev τ.s p.2))with
       |true,some es=>(match Nat.beq es.length (len+1)with|true=>Es n d K τ (.d (.list es)) a|false=>False)
       |_,_=>False)
      |none=>False)
     |_,_=>False)
    |_,_=>False)
   |none=>False)
  |_,_=>False
 |.makeSlice t x y=>match o.dst,T t,ev τ.s x,ev τ.s y,a with
  |some d,some i,.d (.int _ c),.d (.int _ h),.nat m (.cs C b)=>(match i.elm with
   |some (e,sz)=>(match T e,Nat.ble 1 sz with
    |some j,true=>(match j.zer,j.byt with
     |some z,some byt=>(match Nat.beq z.length sz with
      |true=>mg c h byt m z C∧Hs n d e sz C (fun g=>.ref (1,d) g 0 m) K τ b
      |false=>False)
     |_,_=>False)
    |_,_=>False)
   |none=>False)
  |_,_,_,_,_=>False
 |.call c=>match c.callee with
  |.builtin .append=>(match o.dst,c.args.toList,c.argTypes.toList with
   |some d,[x,y],[t,k]=>(match Nat.beq t k with|true=>ZY T r n d t (ev τ.s x) (ev τ.s y) a K τ|false=>False)
   |_,_,_=>False)
  |_=>(match o.dst with|some d=>pV P T l r τ o.op none a (Es n d K τ)|none=>False)
 |_=>match o.dst with|some d=>pV P T l r τ o.op none a (Es n d K τ)|none=>False
def P3(n:Nat)(K:St→AT→Prop)(s:Nat→AV)(H:Hp)(v:AV)(b:AT):Option Nat→Prop
 |some d=>match Nat.ble (d+1) n with|true=>K ⟨upd s d v,H⟩ b|false=>False
 |none=>K ⟨s,H⟩ b
def px(T:Nat→Option TI)(r:Ren)(n:Nat)(d:Option Nat)(t l:Nat)(x y:AV)(a:AT)(K:St→AT→Prop)(τ:St):Prop:=
 match T t,T l with
 |some i,some h=>match i.elm,h.elm with
  |some (e,sz),some (e',f)=>match Nat.beq e e',Nat.beq sz f,T e,Nat.ble 1 sz,SP τ.H sz y with
   |true,true,some j,true,true=>(match j.zer,x,a with
    |some _,.ref k q off cn,.nat c (.cs news (.cs g b))=>(match Bt τ.H k q,Nat.beq (τ.H k).sz sz with
     |true,true=>D4 sz (cellsOf τ.H y) y c news∧c≤cn∧G4 (τ.H k).cells (off*sz) news g∧Gg r k news (P3 n K τ.s (updH τ.H k ⟨q,true,(τ.H k).e,(τ.H k).sz,g⟩) (.d (.int .i64 c)) b d)
     |_,_=>False)
    |_,_,_=>False)
   |_,_,_,_,_=>False
  |_,_=>False
 |_,_=>False
def aa(C:List AV)(off cn sz:Nat)(z a:List AV):Prop:=(off+cn)*sz≤C.length∧C.take (off*sz)++(List.replicate cn z).flatten++C.drop ((off+cn)*sz)=a
def nz(T:Nat→Option TI)(r:Ren)(t:Nat)(x:AV)(a:AT)(K:St→AT→Prop)(τ:St):Prop:=
 match T t with
 |some i=>match i.elm with
  |some (e,sz)=>match T e,Nat.ble 1 sz with
   |some j,true=>(match j.zer,x,a with
    |some z,.ref k q off cn,.cs c b=>(match Bt τ.H k q,Nat.beq (τ.H k).sz sz,Nat.beq z.length sz with
     |true,true,true=>aa (τ.H k).cells off cn sz z c∧Gg r k z (K ⟨τ.s,updH τ.H k ⟨q,true,(τ.H k).e,(τ.H k).sz,c⟩⟩ b)
     |_,_,_=>False)
    |_,_,_=>False)
   |_,_=>False
  |none=>False
 |none=>False
def Hm(P:Program)(T:Nat→Option TI)(l n:Nat)(r:Ren)(o:Oper)(a:AT)(K:St→AT→Prop)(τ:St):Prop:=
 match o.op with
 |.call c=>(match c.callee with
  |.builtin .copy=>(match c.args.toList,c.argTypes.toList with|[x,y],[t,b]=>px T r n o.dst t b (ev τ.s x) (ev τ.s y) a K τ|_,_=>False)
  |.builtin .clear=>(match c.args.toList,c.argTypes.toList,o.dst with|[x],[t],none=>nz T r t (ev τ.s x) a K τ|_,_,_=>False)
  |_=>IZ P T l n r o a K τ)
 |_=>IZ P T l n r o a K τ
def nw(T:Nat→Option TI)(n:Nat)(b:Option Nat)(t len:Nat)(vs:List (Nat×AV))(a:AT)(K:St→AT→Prop)(τ:St):Prop:=
 match b,T t with
 |some d,some i=>(match i.elm with
  |some (e,sz)=>(match T e,Nat.ble 1 sz,Nat.ble ((len+1)*sz) 16777216 with
   |some j,true,true=>(match j.zer with
    |some z=>(match Nat.beq z.length sz,B7 (fun i=>some (i*sz,sz)) (List.replicate (len+1) z).flatten vs,vs.all (fun p=>HM p.2)with
     |true,some cs,true=>(match z.all AV.flat with|true=>Hs n d e sz cs (fun g=>.ref (1,d) g 0 (len+1)) K τ a|false=>False)
     |_,_,_=>False)
    |none=>False)
   |_,_,_=>False)
  |none=>False)
 |_,_=>False
def Hg(P:Program)(T:Nat→Option TI)(l n:Nat)(r:Ren)(o:Oper)(a:AT)(K:St→AT→Prop)(τ:St):Prop:=
 match o.op with
 |.buildSlice t (len+1) parts=>(match a with
  |.go b=>nw T n o.dst t len (parts.toList.map fun p=>(p.1,ev τ.s p.2)) b K τ
  |.sep b=>Hm P T l n r o b K τ
  |a=>Hm P T l n r o a K τ)
 |_=>Hm P T l n r o a K τ
def Od(n d:Nat)(e:EK)(x:Nat→AV)(K:St→AT→Prop)(τ:St)(a:AT):Prop:=
 match Nat.ble (d+1) n with
 |true=>K ⟨upd τ.s d (x ((τ.H (1,d)).g+1)),updH τ.H (1,d) ⟨(τ.H (1,d)).g+1,true,e,0,[]⟩⟩ a
 |false=>False
def uq(s:Nat→AV):Option Operand→Bool
 |none=>true
 |some x=>match ev s x with|.d (.int _ _)=>true|_=>false
def uu(s:ByteArray)(ds:List D)(es a:List (List D)):Prop:=CW s ds es=a
def rY(s:ByteArray)(es a:List (List D)):Prop:=CV s es=a
def r6(rest:List (List D))(i:Nat)(e:List D)(es:List (List D)):Prop:=rest[i]?=some e∧rest.eraseIdx i=es
def LB(T:Nat→Option TI)(r:Ren)(d:Option Nat)(t:Nat)(x y z:AV)(a:AT)(K:St→AT→Prop)(τ:St):Prop:=
 match d,T t,x,y with
 |none,some i,.mp k g,.d (.str s)=>(match i.mp,Bt τ.H k g,(τ.H k).e with
  |some (q,_),true,.m e es=>(match Lq q e,Iz q z,a with
   |true,some ds,.ents c b=>uu s ds es c∧Gg r k [] (K ⟨τ.s,updH τ.H k ⟨g,true,.m q c,(τ.H k).sz,(τ.H k).cells⟩⟩ b)
   |_,_,_=>False)
  |_,_,_=>False)
 |_,_,_,_=>False
def pMd(T:Nat→Option TI)(r:Ren)(d:Option Nat)(t:Nat)(x y:AV)(a:AT)(K:St→AT→Prop)(τ:St):Prop:=
 match d,T t,x,y with
 |none,some i,.mp k g,.d (.str s)=>(match i.mp,Bt τ.H k g,(τ.H k).e with
  |some (q,_),true,.m e es=>(match Lq q e,a with
   |true,.ents c b=>rY s es c∧Gg r k [] (K ⟨τ.s,updH τ.H k ⟨g,true,.m q c,(τ.H k).sz,(τ.H k).cells⟩⟩ b)
   |_,_=>False)
  |_,_,_=>False)
 |_,_,_,_=>False
def pNx(n d:Nat)(k:Ac)(g:Nat)(q:Bool)(rest:List (List D))(a:AT)(K:St→AT→Prop)(τ:St):Prop:=
 match Nat.ble (d+1) n,a with
 |true,.all a0 f=>(rest=[]→K ⟨upd τ.s d (.tup [.d (.bool false)]),τ.H⟩ a0)∧∀i,i<rest.length→(match f i with
  |.ds (.str s::ds) (.ents es b)=>r6 rest i (.str s::ds) es∧K ⟨upd τ.s d (.tup [.d (.bool true),.d (.str s),Gc q ds]),updH τ.H k ⟨g,true,.i q es (some (.str s::ds)),(τ.H k).sz,(τ.H k).cells⟩⟩ b
  |_=>False)
 |_,_=>False
def pNs(n d:Nat)(k:Ac)(g:Nat)(z:ByteArray)(p:Nat)(a:AT)(K:St→AT→Prop)(τ:St):Prop:=
 match Nat.ble (d+1) n,a with
 |true,.br a1 a0=>(decide (p<z.size)=true→K ⟨upd τ.s d (.tup [.d (.bool true),.d (.int .i64 (p:Int)),.d (.int .i32 (HU z p))]),updH τ.H k ⟨g,true,.s z (p+Eb z p),(τ.H k).sz,(τ.H k).cells⟩⟩ a1)∧(decide (p<z.size)=false→K ⟨upd τ.s d (.tup [.d (.bool false)]),τ.H⟩ a0)
 |_,_=>False
def GJ(P:Program)(T:Nat→Option TI)(l n:Nat)(r:Ren)(o:Oper)(a:AT)(K:St→AT→Prop)(τ:St):Prop:=
 match o.op with
 |.makeMap t b=>(match o.dst,T t,uq τ.s b with
  |some d,some i,true=>(match i.mp with|some (q,_)=>Od n d (.m q []) (fun g=>.mp (1,d) g) K τ a|none=>False)
  |_,_,_=>False)
 |.mapUpdate t x y z=>LB T r o.dst t (ev τ.s x) (ev τ.s y) (ev τ.s z) a K τ
 |.insert t x y z=>LB T r o.dst t (ev τ.s x) (ev τ.s y) (ev τ.s z) a K τ
 |.range t x=>(match o.dst,T t,ev τ.s x with
  |some d,some i,.d (.map q es)=>(match i.mp with|some _=>Od n d (.i q es none) (fun g=>.ptr (1,d) g 0) K τ a|none=>False)
  |some d,some i,.d (.str z)=>(match Nat.beq i.kin 2 with|true=>Od n d (.s z 0) (fun g=>.ptr (1,d) g 0) K τ a|false=>False)
  |_,_,_=>False)
 |.next x false=>(match o.dst,ev τ.s x with
  |some d,.ptr k g 0=>(match Nat.beq k.1 1,Bt τ.H k g,(τ.H k).e with
   |true,true,.i q rest _=>pNx n d k g q rest a K τ
   |_,_,_=>False)
  |_,_=>False)
 |.next x true=>(match o.dst,ev τ.s x with
  |some d,.ptr k g 0=>(match Nat.beq k.1 1,Bt τ.H k g,(τ.H k).e with
   |true,true,.s z p=>pNs n d k g z p a K τ
   |_,_,_=>False)
  |_,_=>False)
 |.entry x=>(match o.dst,ev τ.s x with
  |some d,.ptr k g 0=>(match Nat.beq k.1 1,Bt τ.H k g,(τ.H k).e,Nat.ble (d+1) n with
   |true,true,.i q rest (some (.str s::ds)),true=>K ⟨upd τ.s d (.tup [.d (.str s),Gc q ds]),updH τ.H k ⟨g,true,.i q rest none,(τ.H k).sz,(τ.H k).cells⟩⟩ a
   |_,_,_,_=>False)
  |_,_=>False)
 |.call c=>(match c.callee with
  |.builtin .delete=>(match c.args.toList,c.argTypes.toList with|[x,y],[t,_]=>pMd T r o.dst t (ev τ.s x) (ev τ.s y) a K τ|_,_=>False)
  |_=>Hg P T l n r o a K τ)
 |_=>Hg P T l n r o a K τ
def CU(env:BG):Option Nat→BG
 |some d=>(d,[])::env
 |none=>env
def EJ(env:BG):Option Nat→Bool
 |some d=>fresh d env
 |none=>true
def F2(P:Program)(T:Nat→Option TI)(l n:Nat)(r:Ren)(ds:List (Option Nat)):List Oper→BG→AT→(St→BG→AT→Prop)→St→Prop
 |[],env,a,K,τ=>K τ env a
 |o::rest,env,a,K,τ=>match o.guard with
  |none=>(match BU env [] o.op,EJ env o.dst with
   |true,true=>GJ P T l n r o a (fun τ' c=>F2 P T l n r ds rest (CU env o.dst) c K τ') τ
   |_,_=>False)
  |some (i,b)=>(match Bj ds i,o.dst with
   |some (some d),some e=>(match FU τ.s ((d,b)::lk env d),BU env ((d,b)::lk env d) o.op,fresh e env&&K3 e ((d,b)::lk env d),Nat.ble (e+1) n with
    |some g,true,true,true=>pV P T l r τ o.op (some g) a (fun v c=>F2 P T l n r ds rest ((e,(d,b)::lk env d)::env) c K ⟨upd τ.s e v,τ.H⟩)
    |_,_,_,_=>False)
   |_,_=>False)
def Zq(P:Program)(T:Nat→Option TI)(l n:Nat)(r:Ren)(o:Oper)(a:AT)(K:St→AT→Prop)(τ:St):Prop:=
 match o.op,o.dst with
 |.buildSlice t (len+1) ps,some d=>pV P T l r τ (.buildSlice t (len+1) ps) none a (Es n d K τ)
 |_,_=>GJ P T l n r o a K τ
def FW(P:Program)(T:Nat→Option TI)(l n:Nat)(r:Ren)(ds:List (Option Nat)):List Oper→BG→AT→(St→BG→AT→Prop)→St→Prop
 |[],env,a,K,τ=>K τ env a
 |o::rest,env,a,K,τ=>match o.guard with
  |none=>(match BU env [] o.op,EJ env o.dst with
   |true,true=>Zq P T l n r o a (fun τ' c=>FW P T l n r ds rest (CU env o.dst) c K τ') τ
   |_,_=>False)
  |some (i,b)=>(match Bj ds i,o.dst with
   |some (some d),some e=>(match FU τ.s ((d,b)::lk env d),BU env ((d,b)::lk env d) o.op,fresh e env&&K3 e ((d,b)::lk env d),Nat.ble (e+1) n with
    |some g,true,true,true=>pV P T l r τ o.op (some g) a (fun v c=>FW P T l n r ds rest ((e,(d,b)::lk env d)::env) c K ⟨upd τ.s e v,τ.H⟩)
    |_,_,_,_=>False)
   |_,_=>False)
section
variable {P:Program} {T:Nat→Option TI} {r:Ren} {l n outs:Nat} {B:Base} {env:BG} {τ σ:St} {a:AT} {o:Oper}
theorem R.adopt{act:Act}{w:World}{d:Nat}{e:TypeId}{sz:Nat}{s:Nat→AV}{H:Hp}(h:R l n B ⟨s,H⟩ act w)(k:Ac)(P:k.1=l+1)(g:Nat)(M:(H k).g<g)(L:s d=.e0):R l n B ⟨upd s d (.ref k g 0 0),updH H k ⟨g,true,e,sz,[]⟩⟩ act w:=by
 obtain⟨m,S,o,N,u,D,hex⟩:=h.un
 have c:Ext (l+1) H m S w (updH H k ⟨g,true,e,sz,[]⟩) (A1 m k ⟨0,0,0⟩) S w:=by
  refine⟨fun _ h=>h,fun _ _=>rfl,fun q f=>?_,fun q f E hl=>?_,rfl,rfl,rfl,Yp _⟩
  ·by_cases a:q=k
   ·subst a;rw[AN];simp only;omega
   ·rw[AG _ _ a];exact Yp _
  ·by_cases a:q=k
   ·subst a;rw[AN]at E;simp only at E;omega
   ·rw[AG _ _ a]at hl⊢;rw[AS _ _ a];exact⟨hl,rfl,rfl⟩
 have t:Ok (l+1) (updH H k ⟨g,true,e,sz,[]⟩) (A1 m k ⟨0,0,0⟩) S w:=by
  refine⟨o.sub,fun q f hl b=>?_,fun q f hl b=>?_,fun q G f y hl r b j he=>?_,fun q f hl b=>?_,o.mp.upd (Yp _) k _ rfl (fun q e=>AS _ _ e) (fun _ h=>h) (fun _ h=>.inl h) (fun _ _=>rfl) (fun _ _ h _=>h)⟩
  ·by_cases a:q=k
   ·subst a;rw[AN]
   ·rw[AG _ _ a]at hl⊢;rw[AS _ _ a]at b;exact o.empty q f hl b
  ·by_cases a:q=k
   ·subst a;rw[AU]at b;exact absurd rfl b
   ·rw[AG _ _ a]at hl;rw[AS _ _ a]at b⊢;exact o.fresh q f hl b
  ·have p:q≠k:=by rintro rfl;rw[AU]at b;exact b rfl
   have A:G≠k:=by rintro rfl;rw[AU]at j;exact j rfl
   rw[AG _ _ p]at hl;rw[AG _ _ A]at r
   rw[AS _ _ p]at b he;rw[AS _ _ A]at j he
   exact o.inj q G f y hl r b j he
  ·have p:q≠k:=by rintro rfl;rw[AU]at b;exact b rfl
   rw[AG _ _ p]at hl⊢;rw[AS _ _ p]at b⊢
   obtain⟨C,I,J,K,z⟩:=o.blk q f hl b
   exact⟨C,I,J,K,fun i x v hi F=>⟨(z i x v hi F).1,(z i x v hi F).2.ext c f⟩⟩
 refine⟨_,_,t,N,u,fun i=>?_,hex.trans (c.mono (by omega))⟩
 simp only[upd]
 by_cases hi:i=d
 ·subst hi
  rw[Ys rfl]
  have:=D i
  rw[L]at this
  generalize act.tmps.getD i Go.undef=v at this⊢
  cases this with
  |e0 O=>
   have:=RepA.refL (w:=w) (S:=S) (H:=updH H k ⟨g,true,e,sz,[]⟩) (m:=A1 m k ⟨0,0,0⟩) (l:=l+1) k 0 0 O (by omega) (by rw[AN]) (by rw[AU];simp) (fun h=>by rw[AU]at h;simp at h)
   rw[AN,AU]at this
   exact this
 ·rw[Yr hi]
  exact(D i).ext c (Yp _)
def IS(r:Ren)(outs:Nat)(k:Ac):Prop:=k.1=1∨(k.1=0∧k.2<outs∧r.no (r.κ k))
theorem RenOk.ne(a:RenOk r l outs){q k:Ac}(f:q.1=1∨(q.1=0∧q.2<outs))(e:k.1=1∨(k.1=0∧k.2<outs))(b:q≠k):r.κ q≠r.κ k:=fun he=>by
 obtain⟨i,j⟩:=q
 obtain⟨g,h⟩:=k
 simp only at f e
 rcases f with rfl|⟨rfl,c⟩<;>rcases e with rfl|⟨rfl,d⟩
 ·rw[a.own,a.own]at he;simp at he;exact b (by rw[he])
 ·rw[a.own]at he;have:=a.out _ d;rw[←he]at this;simp at this;omega
 ·rw[a.own]at he;have:=a.out _ c;rw[he]at this;simp at this;omega
 ·exact b (by rw[a.inj _ _ c d he])
theorem IS.lk{k:Ac}(h:IS r outs k):k.1=1∨(k.1=0∧k.2<outs):=by
 rcases h with h|⟨a,b,_⟩
 ·grind
 grind
theorem RG.updK(j:RenOk r l outs)(h:RG r l outs env τ σ)(k:Ac)(b m:Blk)(p:b.live=true→m=AI r k b)(o:m.g=r.γ k+b.g)(g:IS r outs k):
  RG r l outs env ⟨τ.s,Go.Eng.updH τ.H k b⟩ ⟨σ.s,Go.Eng.updH σ.H (r.κ k) m⟩:=by
 have f:=g.lk
 refine⟨h.s,fun q c=>?_,fun d=>?_,fun i hi=>?_,fun q c=>?_,fun q c s=>?_⟩
 ·simp only at c⊢
  by_cases e:q=k
  ·subst e;rw[AN]at c⊢;rw[AN];exact p c
  ·rw[AG _ _ e]at c⊢;rw[AG _ _ (j.ne (h.k _ c) f e)];exact h.h q c
 ·simp only
  by_cases a:((1,d):Ac)=k
  ·subst a;rw[AN,j.own,AN];exact o
  ·have n:((l+1,d):Ac)≠r.κ k:=by rw[←j.own d];exact j.ne (.inl rfl) f a
   rw[AG _ _ a,AG _ _ n]
   exact h.g d
 ·simp only
  by_cases a:((0,i):Ac)=k
  ·subst a;rw[AN,AN];exact o
  ·rw[AG _ _ a,AG _ _ (j.ne (.inr ⟨rfl,hi⟩) f a)]
   exact h.go i hi
 ·simp only at c
  by_cases e:q=k
  ·grind
  ·rw[AG _ _ e]at c;exact h.k q c
 ·simp only
  have n:q≠r.κ k:=by
   rintro rfl
   rcases g with g|⟨_,_,g⟩
   ·obtain⟨t,u⟩:=k
    simp only at g
    subst g
    rw[j.own]at c
    grind
   grind
  rw[AG _ _ n]
  exact h.o q c s
theorem RG.updH(c:RenOk r l outs)(h:RG r l outs env τ σ)(k:Ac)(b:Blk)(d:b.live=true)(a:IS r outs k):
  RG r l outs env ⟨τ.s,Go.Eng.updH τ.H k b⟩ ⟨σ.s,Go.Eng.updH σ.H (r.κ k) (AI r k b)⟩:=RG.updK c h k b _ (fun _=>rfl) rfl a
theorem KW(i:RenOk r l outs)(h:RG r l outs env τ σ){k:Ac}(hl:(τ.H k).live=true){vs:List AV}{A:Prop}(b:Gg r k vs A):A∧IS r outs k∧((r.κ k).1=l+1∨(Am r vs).all (AV.low (r.κ k).1)=true):=by
 unfold Gg at b
 split at b
 ·rename_i a
  have a:=Yc a
  obtain⟨j,m⟩:=k
  simp only at a
  subst a
  exact⟨b,.inl rfl,.inl (by rw[i.own])⟩
 ·obtain⟨⟨d,e⟩,f,g⟩:=b
  rcases h.k k hl with c|⟨_,c⟩
  ·omega
  ·exact⟨g,.inr ⟨d,c,e⟩,.inr f⟩
theorem A0{s:Nat→AV}:CD s []:=fun q a=>by cases a
theorem RG.put0(h:RG r l outs env τ σ){d:Nat}(a:fresh d env=true){v y:AV}(hy:y=ren r v):RG r l outs ((d,[])::env) ⟨upd τ.s d v,τ.H⟩ ⟨upd σ.s d y,σ.H⟩:=
 h.put a rfl (fun _=>hy) (fun b=>absurd A0 b)
def Jn(r:Ren)(l outs:Nat)(env:BG)(K:St→AT→Prop)(σ:St):Prop:=∃τ a,K τ a∧RG r l outs env τ σ
theorem Kt(i:RenOk r l outs)(h:RG r l outs env τ σ){K:St→AT→Prop}{d:Nat}(m:fresh d env=true){e:TypeId}{sz:Nat}{cells:List AV}{x x':Nat→AV}(o:∀g,x' (r.γ (1,d)+g)=ren r (x g))(b:Hs n d e sz cells x K τ a):
  DF l n d e sz (Am r cells) x' (Jn r l outs ((d,[])::env) K) σ:=by
 unfold Hs at b
 split at b
 ·rename_i f
  have f:=Yo f
  refine⟨by omega,_,_,b,?_⟩
  have k:=h.put0 (v:=x ((τ.H (1,d)).g+1)) (y:=x' ((σ.H (l+1,d)).g+1)) m (by rw[h.g,YI];exact o _)
  have c:=RG.updH i k (1,d) ⟨(τ.H (1,d)).g+1,true,e,sz,cells⟩ rfl (.inl rfl)
  have j:AI r (1,d) ⟨(τ.H (1,d)).g+1,true,e,sz,cells⟩=⟨(σ.H (l+1,d)).g+1,true,e,sz,Am r cells⟩:=by
   simp only[AI,h.g,YI]
  rw[j,i.own]at c
  exact c
 grind
theorem Ry{K:St→AT→Prop}(h:RG r l outs env τ σ){d:Nat}(c:fresh d env=true){y:AV}(hy:KR r (Es n d K τ) y):d<n∧Jn r l outs ((d,[])::env) K ⟨upd σ.s d y,σ.H⟩:=by
 obtain⟨v,e,rfl,a⟩:=hy
 unfold Es at a
 split at a
 ·rename_i b
  have b:=Yo b
  exact⟨by omega,_,_,a,h.put0 c rfl⟩
 grind
section
variable {H:Hp} {K K':AV→Prop} {t:TypeId} {x y:AV}
theorem cQ(a:∀y,K y→K' y)(h:D2 P H t x K):D2 P H t x K':=by
 unfold D2 at h⊢
 split at h
 ·grind
 ·grind
 grind
theorem Zia{i:Nat}(a:∀y,K y→K' y)(h:Ej P H t i x K):Ej P H t i x K':=by
 unfold Ej at h⊢
 grind
theorem ZoM{i:Nat}(a:∀y,K y→K' y)(h:Eo P t i x K):Eo P t i x K':=by
 unfold Eo at h⊢
 split at h
 ·split at h
  ·grind
  grind
 grind
theorem Zh3(a:∀y,K y→K' y)(h:DU P H t x y K):DU P H t x y K':=by
 unfold DU at h⊢
 grind
theorem Zow(a:∀y,K y→K' y)(h:EL P t x y K):EL P t x y K':=by
 unfold EL at h⊢
 grind
theorem wC{neg:Bool}(a:∀y,K y→K' y)(h:Dn H neg x K):Dn H neg x K':=by
 unfold Dn at h⊢
 grind
theorem Zxv{op:BinOp}{b:Bool}(a:∀y,K y→K' y)(h:Ch P H op t b x y K):Ch P H op t b x y K':=by
 unfold Ch at h⊢
 split at h
 ·exact⟨h.1,wy a h.2⟩
 ·exact vX a h
 ·grind
 ·unfold F5 at h⊢
  split at h
  ·split at h
   ·grind
   grind
  grind
 ·refine⟨h.1,h.2.1,?_⟩
  replace h:=h.2.2
  split at h
  ·exact wC a h
  ·exact wC a h
  grind
 grind
theorem ZGv{op:UnOp}(a:∀y,K y→K' y)(h:Ec op x K):Ec op x K':=by
 unfold Ec at h⊢
 grind
theorem Zsg{u:TypeId}(a:∀y,K y→K' y)(h:Ep P t u x K):Ep P t u x K':=by
 unfold Ep at h⊢
 grind
theorem ZoK{lo hi:Option AV}{a:Bool}(b:∀y,K y→K' y)(h:DX P H t x lo hi a K):DX P H t x lo hi a K':=by
 unfold DX at h⊢
 grind
theorem Zxm(a:∀y,K y→K' y)(h:Dq P H t x K):Dq P H t x K':=by
 unfold Dq at h⊢
 grind
theorem Zod{ps:List (Nat×AV)}(a:∀y,K y→K' y)(h:EM P t ps K):EM P t ps K':=by
 unfold EM at h⊢
 grind
theorem RH{op:Op}{ρ:Operand→AV}(d:∀y,K y→K' y)(h:AZ P H op ρ K):AZ P H op ρ K':=by
 cases op<;>simp only[AZ]at h⊢<;>try exact h.elim
 case move x=>exact d _ h
 case assign x=>exact d _ h
 case pick c a b=>
  split at h
  ·grind
  ·grind
 case load=>exact cQ d h
 case fieldAddr=>exact Zia d h
 case field=>exact ZoM d h
 case indexAddr=>exact Zh3 d h
 case index=>exact Zow d h
 case extract=>
  split at h
  ·grind
  ·grind
 case makeInterface=>
  refine⟨h.1,?_⟩
  replace h:=h.2
  repeat' split at h
  all_goals first|exact h.elim|exact d _ h
 case typeAssert=>
  refine⟨h.1,?_⟩
  replace h:=h.2
  repeat' split at h
  all_goals first|exact h.elim|exact⟨h.1,d _ h.2⟩
 case binOp=>exact Zxv d h
 case unOp=>exact ZGv d h
 case convert=>exact Zsg d h
 case nilCheck=>
  unfold Hj at h⊢
  split at h
  ·grind
  ·grind
  ·grind
 case makeFunc=>exact d _ h
 case slice=>exact ZoK d h
 case build=>exact Zod d h
 case lookup=>exact wq d h
 case call c=>
  split at h
  ·exact⟨h.1,Zxm d h.2⟩
  ·split at h
   ·unfold DN at h⊢
    grind
   ·unfold FY at h⊢
    grind
   grind
  ·grind
end
end
end Go.Eng
