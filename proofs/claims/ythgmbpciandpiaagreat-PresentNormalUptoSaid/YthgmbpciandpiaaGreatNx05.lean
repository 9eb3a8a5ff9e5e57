import Derived.Test.YthgmbpciandpiaaGreatNx01
import Derived.Maps.RangeRun
import Derived.Test.YthgmbpciandpiaaGreatNx02
import Derived.Test.YthgmbpciandpiaaGreatNx04
import Derived.Test.YthgmbpciandpiaaGreatNx00
namespace Go.Eng
set_option linter.all false
open Go Go.RowKit
section
variable {P:Program} {l n:Nat} {H:Hp} {m:Mu} {S:Nat→Prop} {w w':World} {s:Nat→AV} {a:Act}
theorem Ok.allocO(h:Ok l H m S w)(k:Ad)(P:k.1≤l)(b:Blk)(K:b.e.isO=true)(u:b.cells=[])(O:(H k).g<b.g)(o:Obj)(D:w'.heap=w.heap.push o)
  (J:I6 w' S w.heap.size b.e) (F:w'.os=w.os) (G:w'.tape=w.tape) (I:w'.output=w.output):
  Ok l (updH H k b) (Be m k ⟨w.heap.size,0,0⟩) S w'∧Ext l H m S w (updH H k b) (Be m k ⟨w.heap.size,0,0⟩) S w':=by
 have d:∀i,i<w.heap.size→w'.heap[i]?=w.heap[i]?:=fun i hi=>by rw[D,IF,Yf (by omega)]
 have j:Ext l H m S w (updH H k b) (Be m k ⟨w.heap.size,0,0⟩) S w':=by
  refine⟨fun _ h=>h,fun i hi=>d i (h.sub i hi),fun q a=>?_,fun q a y hl=>?_,F,G,I,by rw[D];simp⟩
  ·by_cases e:q=k
   ·subst e;rw[AQ];omega
   ·rw[AJ _ _ e];exact Yh _
  ·by_cases e:q=k
   ·subst e;rw[AQ]at y;omega
   ·rw[AJ _ _ e]at hl⊢;rw[A4 _ _ e];exact⟨hl,rfl,rfl⟩
 have B:∀q:Ad,q.1≤l→(H q).live=true→(m q).cap≠0→(m q).b<w.heap.size:=fun q a hl n=>by
  obtain⟨C,t,_⟩:=h.blk q a hl n
  grind
 have A:∀q:Ad,q.1≤l→(H q).live=true→(H q).e.isO=true→(m q).b<w.heap.size:=fun q a hl n=>by
  obtain⟨C,t,_⟩:=(h.mp.o q a hl).at n
  grind
 refine⟨⟨fun i hi=>?_,fun q a hl c=>?_,fun q a hl c=>?_,fun q s a r hl f c g heq=>?_,fun q a hl c=>?_,
  ⟨fun q a hl=>?_,fun q a hl he=>?_,fun q s a r hl f he p heq=>?_⟩⟩,j⟩
 ·have:=h.sub i hi;rw[D];simp;omega
 ·by_cases e:q=k
  ·subst e;rw[AQ];exact u
  ·rw[AJ _ _ e]at hl⊢;rw[A4 _ _ e]at c;exact h.empty q a hl c
 ·by_cases e:q=k
  ·subst e;rw[A7]at c;exact absurd rfl c
  ·rw[AJ _ _ e]at hl;rw[A4 _ _ e]at c⊢;exact h.fresh q a hl c
 ·by_cases e:q=k
  ·subst e;rw[A7]at c;exact absurd rfl c
  ·by_cases e':s=k
   ·subst e';rw[A7]at g;exact absurd rfl g
   ·rw[A4 _ _ e,A4 _ _ e']at heq
    rw[AJ _ _ e]at hl;rw[AJ _ _ e']at f
    rw[A4 _ _ e]at c;rw[A4 _ _ e']at g
    exact h.inj q s a r hl f c g heq
 ·by_cases e:q=k
  ·subst e;rw[A7]at c;exact absurd rfl c
  ·rw[AJ _ _ e]at hl⊢
   rw[A4 _ _ e]at c⊢
   obtain⟨C,t,hs,z,N⟩:=h.blk q a hl c
   refine⟨C,by rw[d _ (B q a hl c)];exact t,hs,z,fun i x v hi M=>?_⟩
   obtain⟨E,g2⟩:=N i x v hi M
   exact⟨E,g2.ext j a⟩
 ·by_cases e:q=k
  ·subst e;rw[AQ,A7];exact J
  ·rw[AJ _ _ e]at hl⊢;rw[A4 _ _ e]
   exact(h.mp.o q a hl).mono (fun _ h=>h) (fun i hi=>d i (h.sub i hi)) (fun L=>d _ (A q a hl L))
 ·by_cases e:q=k
  ·subst e;rw[A7];exact⟨⟨rfl,rfl⟩,fun hs=>by have:=h.sub _ hs;simp at this⟩
  ·rw[AJ _ _ e]at hl he;rw[A4 _ _ e];exact h.mp.c q a hl he
 ·by_cases e:q=k<;>by_cases e':s=k
  ·grind
  ·subst e
   rw[A7,A4 _ _ e']at heq
   rw[AJ _ _ e']at f p
   grind
  ·subst e'
   rw[A7,A4 _ _ e]at heq
   rw[AJ _ _ e]at hl he
   grind
  ·rw[A4 _ _ e,A4 _ _ e']at heq
   rw[AJ _ _ e]at hl he;rw[AJ _ _ e']at f p
   exact h.mp.i q s a r hl f he p heq
theorem Ok.writeO(h:Ok l H m S w)(k:Ad)(y:k.1≤l)(hl:(H k).live=true)(t:(H k).e.isO=true)(e':EK)(n:e'.isO=true)(o:Obj)
  (F:∀b,w'.heap[b]?=if b=(m k).b then some o else w.heap[b]?) (B:w'.heap.size=w.heap.size) (L:I6 w' S (m k).b e') (I:w'.os=w.os) (J:w'.tape=w.tape) (K:w'.output=w.output):
  Ok l (updH H k {H k with e:=e' }) m S w'∧Ext l H m S w (updH H k {H k with e:=e' }) m S w':=by
 obtain⟨R,T⟩:=h.mp.c k y hl t
 have j:Ext l H m S w (updH H k {H k with e:=e' }) m S w':=by
  refine⟨fun _ h=>h,fun b s=>?_,fun q d=>?_,fun q d U a=>?_,I,J,K,by omega⟩
  ·grind
  ·by_cases e:q=k
   ·subst e;rw[AQ];exact Yh _
   ·rw[AJ _ _ e];exact Yh _
  ·by_cases e:q=k
   ·subst e;rw[AQ]at a⊢;exact⟨a,rfl,rfl⟩
   ·rw[AJ _ _ e]at a⊢;exact⟨a,rfl,rfl⟩
 have f:∀q:Ad,(updH H k {H k with e:=e' } q).live=(H q).live:=fun q=>by
  by_cases e:q=k
  ·subst e;rw[AQ]
  ·rw[AJ _ _ e]
 have g:∀q:Ad,(H q).e.isO=(updH H k {H k with e:=e' } q).e.isO:=fun q=>by
  by_cases e:q=k
  ·subst e;rw[AQ];exact t.trans n.symm
  ·rw[AJ _ _ e]
 refine⟨⟨fun b s=>?_,fun q d a r=>?_,fun q d a r=>?_,fun q E d p a c r D heq=>?_,fun q d a r=>?_,
  ⟨fun q d a=>?_,fun q d a he=>?_,fun q E d p a c he n heq=>?_⟩⟩,j⟩
 ·rw[B];exact h.sub b s
 ·rw[f]at a
  have:=h.empty q d a r
  by_cases e:q=k
  ·subst e;rw[AQ];exact this
  ·rw[AJ _ _ e];exact this
 ·rw[f]at a;exact h.fresh q d a r
 ·rw[f]at a c;exact h.inj q E d p a c r D heq
 ·rw[f]at a
  by_cases e:q=k
  ·grind
  ·rw[AJ _ _ e]
   obtain⟨C,s,hs,z,O⟩:=h.blk q d a r
   have A:(m q).b≠(m k).b:=fun u=>by
    obtain⟨V,P,Q⟩:=(h.mp.o k y hl).at t
    rw[u,P]at s;cases s;cases Q
   refine⟨C,by rw[F,Yf A];exact s,hs,z,fun i x v hi N=>?_⟩
   obtain⟨G,g2⟩:=O i x v hi N
   exact⟨G,g2.ext j d⟩
 ·rw[f]at a
  by_cases e:q=k
  ·subst e;rw[AQ];exact L
  ·rw[AJ _ _ e]
   refine(h.mp.o q d a).mono (fun _ h=>h) j.blk (fun M=>?_)
   rw[F,Yf (fun u=>e (h.mp.i q k d y a hl M t u))]
 ·rw[f]at a;rw[←g]at he;exact h.mp.c q d a he
 ·rw[f]at a c;rw[←g]at he n;exact h.mp.i q E d p a c he n heq
theorem MEnt.mod{q:Bool}{es:List (List D)}{ents:Array MapEntry}{a j:Nat}{s:ByteArray}{ds:List D}{x:MapEntry}{v:Value}(h:MEnt w S q es ents a)(o:ents[j]?=some x)(m:VR w S q ds v):
  MEnt w S q (es.set j (.str s::ds)) (ents.modify j fun e=>{e with key:=.string s,val:=v }) a:=by
 have b:∀(i:Nat) (y:MapEntry),(ents.modify j fun e=>{e with key:=.string s,val:=v })[i]?=some y→∃z,ents[i]?=some z∧y=if j=i then {z with key:=.string s,val:=v }else z:=fun i y hy=>by
  grind
 have c:∀(i:Nat) (z:MapEntry),(if j=i then({z with key:=.string s,val:=v }:MapEntry)else z).born=z.born:=fun i z=>by split<;>rfl
 refine⟨by simp[h.n],fun i k y z hy n e=>?_,fun i y hy=>?_,fun i e y hi hy=>?_⟩
 ·obtain⟨g,a1,rfl⟩:=b i y hy
  obtain⟨p,l,rfl⟩:=b k z n
  rw[c,c]at e
  exact h.born i k _ _ a1 l e
 ·obtain⟨g,a1,rfl⟩:=b i y hy
  rw[c];exact h.clk i _ a1
 ·obtain⟨g,a1,rfl⟩:=b i y hy
  by_cases d:j=i
  ·subst d
   rw[Yg rfl]
   have f:j<es.length:=by rw[←h.n];exact GS a1
   rw[Zx,Yg rfl,Yg f]at hi
   cases hi
   exact⟨s,ds,rfl,rfl,m⟩
  ·rw[Yf d]
   rw[Zx,Yf d]at hi
   exact h.e i e _ hi a1
theorem MEnt.push{q:Bool}{es:List (List D)}{ents:Array MapEntry}{a:Nat}{s:ByteArray}{ds:List D}{v:Value}(h:MEnt w S q es ents a)(g:VR w S q ds v):
  MEnt w S q (es++[.str s::ds]) (ents.push {key:=.string s,val:=v,born:=a }) (a+1):=by
 have b:∀(i:Nat) (y:MapEntry),(ents.push {key:=.string s,val:=v,born:=a })[i]?=some y→(i=ents.size∧y={key:=.string s,val:=v,born:=a })∨(i≠ents.size∧ents[i]?=some y):=fun i y hy=>by
  grind
 refine⟨by simp[h.n],fun i k y z hy j e=>?_,fun i y hy=>?_,fun i e y hi hy=>?_⟩
 ·rcases b i y hy with⟨rfl,rfl⟩|⟨a1,c⟩<;>rcases b k z j with⟨rfl,rfl⟩|⟨l,f⟩
  ·rfl
  ·have:=h.clk k z f;simp only at e;omega
  ·have:=h.clk i y c;simp only at e;omega
  ·exact h.born i k y z c f e
 ·rcases b i y hy with⟨rfl,rfl⟩|⟨a1,c⟩
  ·grind
  ·exact Nat.lt_succ_of_lt (h.clk i y c)
 ·rcases b i y hy with⟨rfl,rfl⟩|⟨a1,c⟩
  ·rw[h.n,Yy (Yh _),Nat.sub_self]at hi
   cases hi
   exact⟨s,ds,rfl,rfl,g⟩
  ·have d:i<es.length:=by rw[←h.n];exact GS c
   rw[Ys d]at hi
   exact h.e i e y hi c
theorem MEnt.del{q:Bool}{es:List (List D)}{ents:Array MapEntry}{a j:Nat}(h:MEnt w S q es ents a)(d:j<ents.size):MEnt w S q (es.eraseIdx j) (ents.eraseIdxIfInBounds j) a:=by
 have f:(ents.eraseIdxIfInBounds j).toList=ents.toList.eraseIdx j:=by
  unfold Array.eraseIdxIfInBounds
  rw[dif_pos d,Array.toList_eraseIdx]
 have b:∀(i:Nat) (y:MapEntry),(ents.eraseIdxIfInBounds j)[i]?=some y→ents[if i<j then i else i+1]?=some y:=fun i y hy=>by
  grind
 have c:∀i k:Nat,(if i<j then i else i+1)=(if k<j then k else k+1)→i=k:=fun i k=>by split<;>split<;>omega
 refine⟨?_,fun i k y z hy g e=>c i k (h.born _ _ _ _ (b i y hy) (b k z g) e),fun i y hy=>h.clk _ _ (b i y hy),fun i e y hi hy=>?_⟩
 ·have:=congrArg List.length f
  rw[Y0,List.length_eraseIdx,Y0,Yg d]at this
  rw[this,List.length_eraseIdx,Yg (by rw[←h.n];exact d),h.n]
 ·refine h.e _ e y ?_ (b i y hy)
  grind
theorem iK{α:Type}(f:α→Nat)(g:α→Bool):∀(L:List α),(∀(i j:Nat) (x y:α),L[i]?=some x→L[j]?=some y→f x=f y→i=j)→∀(i:Nat) (x:α),(L.filter g)[i]?=some x→L.filter (fun y=>g y&&!(f y==f x))=(L.filter g).eraseIdx i
 |[],_,i,x,h=>by simp at h
 |y::L,d,i,x,h=>by
  have a:∀(i j:Nat) (x y:α),L[i]?=some x→L[j]?=some y→f x=f y→i=j:=fun i j x z hi c e=>N2 (d (i+1) (j+1) x z (by simpa using hi) (by simpa using c) e)
  have hy:∀z∈L,f y≠f z:=fun z l e=>by
   obtain⟨j,c⟩:=YB.1 l
   have:=d 0 (j+1) y z rfl (by simpa using c) e
   omega
  by_cases b:g y=true
  ·rw[sB b]at h⊢
   cases i with
   |zero=>
    simp only[FA,Ym]at h
    subst h
    rw[ZB (by simp),List.eraseIdx_cons_zero]
    apply Zy
    grind
   |succ i=>
    rw[JK]at h
    have k:x∈L:=(DD.1 (Yj h)).1
    rw[sB (by simp[b,hy x k]),ZA,iK f g L a i x h]
  ·rw[ZB b]at h⊢
   rw[ZB (by simp[b])]
   exact iK f g L a i x h
end
end Go.Eng
namespace Go.Eng
set_option linter.all false
open Go Go.RowKit
section
variable {P:Program} {l n:Nat} {B:Base} {H H':Hp} {m m':Mu} {S S':Nat→Prop} {w w':World} {s:Nat→AV} {a:Act} {K:St→Prop} {o:Oper}
def Km:Bool→AV→Option (List D)
 |true,.agg xs=>CU xs
 |false,x=>(D1 x).map fun d=>[d]
 |_,_=>none
theorem ZpW{x:AV}{d:D}{v:Value}(h:D1 x=some d)(b:RepA w S H m l x v):RepD w S d v:=by
 cases x<;>simp only[D1]at h<;>try (cases h;done)
 case d x=>cases h;cases b with|d _ _ a=>exact a
 case e0=>cases h;cases b.e0_d with|d _ _ a=>exact a
theorem Zl4:∀(xs:List AV) (ds:List D) (vs:List Value),CU xs=some ds→xs.length=vs.length→(∀(i:Nat) (x:AV) (v:Value),xs[i]?=some x→vs[i]?=some v→RepA w S H m l x v)→ds.length=vs.length∧∀(i:Nat) (d:D) (v:Value),ds[i]?=some d→vs[i]?=some v→RepD w S d v
 |[],ds,[],h,_,_=>by simp only[CU,Ym]at h;subst h;exact⟨rfl,fun i d v hi=>by simp at hi⟩
 |x::xs,ds,v::vs,h,hl,b=>by
  simp only[CU]at h
  split at h
  ·rename_i d a f g
   cases h
   obtain⟨a1,e⟩:=Zl4 xs a vs g (N2 hl) (fun i x v k j=>b (i+1) x v (by simpa using k) (by simpa using j))
   refine⟨by simp[a1],fun i d' u hi c=>?_⟩
   cases i with
   |zero=>cases hi;cases c;exact ZpW f (b 0 x _ rfl rfl)
   |succ i=>exact e i d' u (by simpa using hi) (by simpa using c)
  ·cases h
 |[],_,_::_,_,h,_=>by cases h
 |_::_,_,[],_,h,_=>by cases h
theorem ZC7{q:Bool}{x:AV}{ds:List D}{v:Value}(h:Km q x=some ds)(a:RepA w S H m l x v):VR w S q ds v:=by
 cases q with
 |true=>
  cases x<;>simp only[Km]at h<;>try (cases h;done)
  case agg xs=>
   cases a with
   |agg _ vs hl b e=>
    obtain⟨a1,c⟩:=Zl4 xs ds vs.toList h (by simpa using hl) (fun i x v a k=>e i x v a (by simpa using k))
    exact .inl ⟨rfl,vs,rfl,by simpa using a1.symm,fun j d u f g=>c j d u f (by simpa using g)⟩
 |false=>
  have h:(D1 x).map (fun d=>[d])=some ds:=by cases x<;>exact h
  obtain⟨d,b,rfl⟩:=Hw.1 h
  exact .inr ⟨rfl,d,rfl,ZpW b a⟩
def TK(l n d:Nat)(e:EK)(x:Nat→AV)(K:St→Prop)(σ:St):Prop:=
 d<n∧K ⟨upd σ.s d (x ((σ.H (l+1,d)).g+1)),updH σ.H (l+1,d) ⟨(σ.H (l+1,d)).g+1,true,e,0,[]⟩⟩
theorem ZmJ{t:TypeId}{z:Option Operand}{d:Nat}{q:Bool}(G:o.op=.makeMap t z)(f:o.dst=some d)(r:∃k e,P.underlying t=some (.map k e))(I:∀x,z=some x→∃k i,ev s x=.d (.int k i))
  (A:TK l n d (.m q []) (fun g=>.mp (l+1,d) g) K ⟨s,H⟩):B6 P l n B o K ⟨s,H⟩:=by
 intro a w E Q
 obtain⟨m,S,D,F,p,C,he⟩:=E.un
 obtain⟨O,N,r⟩:=r
 have c:(execOp a.eval o).run P w=.ok (.value (.map (some w.heap.size))) (w.alloc (.map #[] 0)):=by
  simp only[execOp,G]
  cases z with
  |none=>simp[Instr.makeMap]
  |some x=>
   obtain⟨k,i,J⟩:=I x rfl
   have b:=Cf C x
   rw[J]at b
   have u:a.eval x=.int k i:=by
    generalize a.eval x=v at b
    cases b with|d _ _ f=>cases f;rfl
   simp[Instr.makeMap,run_underlying r,asInt,asIntOf,u]
 obtain⟨L,M⟩:=D.allocO (l+1,d) (Yh _) ⟨(H (l+1,d)).g+1,true,.m q [],0,[]⟩ rfl rfl (DU _) (.map #[] 0) (w':=w.alloc (.map #[] 0)) rfl
  ⟨#[],0,by rw[H5,Yg rfl],⟨rfl,fun i j x y h=>by simp at h,fun i x h=>by simp at h,fun i e x h=>by simp at h⟩⟩ rfl rfl rfl
 refine CF c ?_
 rw[f]
 refine⟨_,A.2,R.step L F p C he M A.1 ?_⟩
 have:=RepA.mpL (w:=w.alloc (.map #[] 0)) (S:=S) (H:=updH H (l+1,d) ⟨(H (l+1,d)).g+1,true,.m q [],0,[]⟩) (m:=Be m (l+1,d) ⟨w.heap.size,0,0⟩) (l:=l+1) (l+1,d) (Yh _) (by rw[AQ])
 rw[AQ,A7]at this
 exact this
theorem OX{w:World}{r:Nat}{a:Array MapEntry}{c:Nat}(h:w.heap[r]?=some (.map a c))(b:Obj):(setObj r b).run P w=.ok () (ChangeMaps.setBlock w r b):=by
 simp[setObj,Sem.run,h,ChangeMaps.setBlock]
theorem FF{w:World}{r:Nat}{d:Obj}(h:w.heap[r]?=some d)(a:Obj)(b:Nat):(ChangeMaps.setBlock w r a).heap[b]?=if b=r then some a else w.heap[b]?:=by
 have c:=GS h
 simp only[ChangeMaps.setBlock,NX]
 grind
theorem ZlV(a b:ByteArray)(h:a=b):(Instr.keyThatStays (.string a) (.string b)).run P w=.ok (.string b) w:=by
 subst h
 have:Instr.sameBits 10000 (.string a) (.string a)=true:=by simp only[Instr.sameBits,kC,Yo]
 simp[Instr.keyThatStays,this]
theorem Zyk{t:TypeId}{q:Bool}{z:List D}{k:Ad}{es:List (List D)}{sk:ByteArray}{ds:List D}{v:Value}(I:HQ P t=some (q,z))(u:Ok (l+1) H m S w)(A:k.1≤l+1)(hl:(H k).live=true)(he:(H k).e=.m q es)(E:VR w S q ds v):
  ∃w',(Instr.mapUpdate t (.map (some (m k).b)) (.string sk) v).run P w=.ok () w'∧Ok (l+1) (updH H k {H k with e:=.m q (Dx sk ds es) }) m S w'∧Ext (l+1) H m S w (updH H k {H k with e:=.m q (Dx sk ds es) }) m S w':=by
 obtain⟨Q,O,C,f,_,_⟩:=Pp I
 have B:=u.mp.o k A hl
 rw[he]at B
 obtain⟨ents,d,g,p⟩:=B
 have n:(H k).e.isO=true:=by rw[he];rfl
 obtain⟨K,y⟩:=u.mp.c k A hl n
 have fin:∀(c:Array MapEntry) (a:Nat),MEnt w S q (Dx sk ds es) c a→Ok (l+1) (updH H k {H k with e:=.m q (Dx sk ds es) }) m S (ChangeMaps.setBlock w (m k).b (.map c a))∧Ext (l+1) H m S w (updH H k {H k with e:=.m q (Dx sk ds es) }) m S (ChangeMaps.setBlock w (m k).b (.map c a)):=fun c a hm=>
  u.writeO k A hl n (.m q (Dx sk ds es)) rfl (.map c a) (FF g _) (by simp[ChangeMaps.setBlock])
   ⟨c,a,by rw[FF g];simp,hm.mono (fun _ h=>h) (fun b J=>by rw[FF g,Yf];rintro rfl;exact y J)⟩ rfl rfl rfl
 rcases Wn (w:=w) (S:=S) (q:=q) (s:=sk) es ents.toList 0 (by simp[p.n]) (fun i e x hi L=>p.e i e x hi (by simpa using L))with⟨a1,r,a3,_⟩|⟨j,x',G,a1,r,a3,a4,a5,F,M,N⟩
 ·refine⟨ChangeMaps.setBlock w (m k).b (.map (ents.push {key:=.string sk,val:=v,born:=d }) (d+1)),?_,?_⟩
  ·simp[Instr.mapUpdate,run_underlying C,MapKept.run_getObj_map g,MapKept.run_checkKey f (show MapKept.IsKey .string (.string sk)from trivial),MapKept.run_findKey f r,OX g]
  ·rw[a3 ds]at fin⊢
   exact fin _ _ (p.push E)
 ·have o:ents[0+j]?=some x':=by simpa using r
  refine⟨ChangeMaps.setBlock w (m k).b (.map (ents.modify (0+j) fun e=>{e with key:=.string sk,val:=v }) d),?_,?_⟩
  ·simp[Instr.mapUpdate,run_underlying C,MapKept.run_getObj_map g,MapKept.run_checkKey f (show MapKept.IsKey .string (.string sk)from trivial),MapKept.run_findKey f a1,o,a3,ZlV,OX g]
   simp only[YN]at o
   simp[o,a3,ZlV,OX g]
  ·rw[F ds]at fin⊢
   simp only[YN]at o⊢
   exact fin _ _ (p.mod o E)
theorem Po{k:Ad}{g:Nat}{v:Value}(h:RepA w S H m l (.mp k g) v)(b:g=(H k).g)(hl:(H k).live=true):k.1≤l∧v=.map (some (m k).b):=by
 cases h with
 |mpL _ c _=>exact⟨c,rfl⟩
 |mpD _ _ _ _ _ a _=>rw[a b]at hl;cases hl
theorem Zlv{t:TypeId}{p c r:Operand}{k:Ad}{g:Nat}{q:Bool}{z:List D}{es:List (List D)}{sk:ByteArray}{ds:List D}(j:o.op=.mapUpdate t p c r∨o.op=.insert t p c r)(u:o.dst=none)(G:HQ P t=some (q,z))
  (hm:ev s p=.mp k g) (I:g=(H k).g) (hl:(H k).live=true) (he:(H k).e=.m q es) (J:ev s c=.d (.str sk)) (M:Km q (ev s r)=some ds)
  (C:K ⟨s,updH H k {H k with e:=.m q (Dx sk ds es) }⟩):B6 P l n B o K ⟨s,H⟩:=by
 intro a w F Q
 obtain⟨m,S,E,L,x,i,y⟩:=F.un
 have f:=Cf i p
 rw[hm]at f
 obtain⟨N,O⟩:=Po f I hl
 have b:=Cf i c
 rw[J]at b
 have A:a.eval c=.string sk:=by
  generalize a.eval c=v at b
  cases b with|d _ _ u=>cases u;rfl
 obtain⟨w',T,U,V⟩:=Zyk (sk:=sk) G E N hl he (ZC7 M (Cf i r))
 have h:(execOp a.eval o).run P w=.ok .skip w':=by
  rcases j with j|j<;>simp[execOp,j,O,A,T]
 unfold Oper.wp
 rw[h]
 simp only[Oper.upon,u,Act.put]
 exact⟨_,C,R.keep U L x i y V⟩
theorem Zri{t t':TypeId}{V G:Operand}{k:Ad}{g:Nat}{q:Bool}{z:List D}{es:List (List D)}{sk:ByteArray}(X:o.op=.call ⟨.builtin .delete,#[V,G],#[t,t']⟩)(N:o.dst=none)(hT:HQ P t=some (q,z))
  (hm:ev s V=.mp k g) (hg:g=(H k).g) (hl:(H k).live=true) (he:(H k).e=.m q es) (hk:ev s G=.d (.str sk))
  (hK:K ⟨s,updH H k {H k with e:=.m q (Dw sk es) }⟩):B6 P l n B o K ⟨s,H⟩:=by
 intro a w hR Q
 obtain⟨m,S,J,hn,O,L,T⟩:=hR.un
 have E:=Cf L V
 rw[hm]at E
 obtain⟨U,Z⟩:=Po E hg hl
 have y:=Cf L G
 rw[hk]at y
 have C:a.eval G=.string sk:=by
  generalize a.eval G=v at y
  cases y with|d _ _ N=>cases N;rfl
 obtain⟨kt,et,Y,r,_,_⟩:=Pp hT
 have F:=J.mp.o k U hl
 rw[he]at F
 obtain⟨ents,p,u,I⟩:=F
 have A:(H k).e.isO=true:=by rw[he];rfl
 obtain⟨hc1,M⟩:=J.mp.c k U hl A
 have fin:∀(f:Array MapEntry) (c:Nat),MEnt w S q (Dw sk es) f c→Ok (l+1) (updH H k {H k with e:=.m q (Dw sk es) }) m S (ChangeMaps.setBlock w (m k).b (.map f c))∧Ext (l+1) H m S w (updH H k {H k with e:=.m q (Dw sk es) }) m S (ChangeMaps.setBlock w (m k).b (.map f c)):=fun f c hm=>
  J.writeO k U hl A (.m q (Dw sk es)) rfl (.map f c) (FF u _) (by simp[ChangeMaps.setBlock])
   ⟨f,c,by rw[FF u];simp,hm.mono (fun _ h=>h) (fun b hb=>by rw[FF u,Yf];rintro rfl;exact M hb)⟩ rfl rfl rfl
 have key:∃w',(execOp a.eval o).run P w=.ok (.value (.tuple #[])) w'∧Ok (l+1) (updH H k {H k with e:=.m q (Dw sk es) }) m S w'∧Ext (l+1) H m S w (updH H k {H k with e:=.m q (Dw sk es) }) m S w':=by
  rcases Wn (w:=w) (S:=S) (q:=q) (s:=sk) es ents.toList 0 (by simp[I.n]) (fun i e x hi hx=>I.e i e x hi (by simpa using hx))with⟨a1,W,_,a4⟩|⟨j,x',ds',a1,W,a3,a4,a5,a6,a7,a8⟩
  ·refine⟨ChangeMaps.setBlock w (m k).b (.map ents p),?_,?_⟩
   ·simp[execOp,X,resolve,invoke,Go.builtin,Z,C,Builtin.delete_,run_underlying Y,MapKept.run_getObj_map u,MapKept.run_checkKey r (show MapKept.IsKey .string (.string sk)from trivial),MapKept.run_findKey r W,OX u]
   grind
  ·have hj:j<ents.size:=by
    grind
   refine⟨ChangeMaps.setBlock w (m k).b (.map (ents.eraseIdxIfInBounds (0+j)) p),?_,?_⟩
   ·simp[execOp,X,resolve,invoke,Go.builtin,Z,C,Builtin.delete_,run_underlying Y,MapKept.run_getObj_map u,MapKept.run_checkKey r (show MapKept.IsKey .string (.string sk)from trivial),MapKept.run_findKey r a1,OX u]
   ·rw[a7]at fin⊢
    simp only[YN]
    exact fin _ _ (I.del hj)
 obtain⟨w',r1,r2,r3⟩:=key
 refine CF r1 ?_
 rw[N]
 exact⟨_,hK,R.keep r2 hn O L T r3⟩
theorem ZvO{t:TypeId}{x:Operand}{d:Nat}{q:Bool}{es:List (List D)}(I:o.op=.range t x)(j:o.dst=some d)(y:∃k e,P.underlying t=some (.map k e))(T:ev s x=.d (.map q es))
  (E:TK l n d (.i q es none) (fun g=>.ptr (l+1,d) g 0) K ⟨s,H⟩):B6 P l n B o K ⟨s,H⟩:=by
 intro a w M Q
 obtain⟨m,S,F,O,A,G,he⟩:=M.un
 obtain⟨X,W,y⟩:=y
 have f:=Cf G x
 rw[T]at f
 have key:∃i,(execOp a.eval o).run P w=.ok (.value (.pointer (some ⟨w.heap.size,0,none⟩))) (w.alloc i)∧ZXw (w.alloc i) S w.heap.size q es none:=by
  generalize J:a.eval x=v at f
  cases f with
  |d _ _ j=>
   cases v with
   |map r=>
    cases r with
    |none=>
     cases j
     refine⟨.mapIter none 0 #[] 0,?_,.inl ⟨rfl,rfl,0,#[],0,by rw[H5,Yg rfl]⟩⟩
     simp[execOp,I,J,Instr.range,run_underlying y]
    |some r=>
     obtain⟨hs,ents,c,z,C⟩:=j.toM
     refine⟨.mapIter (some r) c #[] c,?_,.inr ⟨r,ents,c,es,#[],by rw[H5,Yg rfl],hs,?_,?_,?_,fun e h=>by cases h⟩⟩
     ·simp[execOp,I,J,Instr.range,run_underlying y,MapKept.run_getObj_map z]
     ·rw[H5,Yf (by have:=GS z;omega)];exact z
     ·exact C.mono (fun _ h=>h) (fun b N=>by rw[H5,Yf (by have:=F.sub b N;omega)])
     ·have:((ents.toList.zip es).filter (fun p=>!(#[]:Array Nat).contains p.1.born))=ents.toList.zip es:=by
       rw[LA];intro p _;simp
      rw[this,List.map_snd_zip]
      simp[C.n]
   |_=>cases j
 obtain⟨i,u,L⟩:=key
 obtain⟨U,V⟩:=F.allocO (l+1,d) (Yh _) ⟨(H (l+1,d)).g+1,true,.i q es none,0,[]⟩ rfl rfl (DU _) i (w':=w.alloc i) rfl L rfl rfl rfl
 refine CF u ?_
 rw[j]
 refine⟨_,E.2,R.step U O A G he V E.1 ?_⟩
 have:=RepA.ptrL (w:=w.alloc i) (S:=S) (H:=updH H (l+1,d) ⟨(H (l+1,d)).g+1,true,.i q es none,0,[]⟩) (m:=Be m (l+1,d) ⟨w.heap.size,0,0⟩) (l:=l+1) (l+1,d) 0 (Yh _) (by rw[AQ])
 rw[AQ,A7]at this
 exact this
def q6(q:Bool):List D→AV
 |.str k::ds=>.tup [.d (.bool true),.d (.str k),Hl q ds]
 |_=>.top
theorem jq{α β:Type}(f:α→β):∀(L:List α) (i:Nat),(L.eraseIdx i).map f=(L.map f).eraseIdx i
 |[],i=>by simp
 |x::L,0=>rfl
 |x::L,i+1=>by simp only[ZA,YZ,jq f L i]
theorem l0{α β:Type}{xs:List α}{ys:List β}{i:Nat}{p:α×β}(h:(xs.zip ys)[i]?=some p):xs[i]?=some p.1∧ys[i]?=some p.2:=by
 grind
theorem ZDq{x:Operand}{d:Nat}{k:Ad}{g:Nat}{q:Bool}{rest:List (List D)}{cur:Option (List D)}(ho:o.op=.next x false)(hd:o.dst=some d)(f:ev s x=.ptr k g 0)(hg:g=(H k).g)(hl:(H k).live=true)(he:(H k).e=.i q rest cur)(G:d<n)
  (h0:rest=[]→K ⟨upd s d (.tup [.d (.bool false)]),H⟩)
  (h1:∀(i:Nat) (e:List D),rest[i]?=some e→K ⟨upd s d (q6 q e),updH H k {H k with e:=.i q (rest.eraseIdx i) (some e) }⟩):B6 P l n B o K ⟨s,H⟩:=by
 intro a w hR Q
 obtain⟨m,S,X,hn,F,hS,I⟩:=hR.un
 have U:=Cf hS x
 rw[f]at U
 have M:k.1≤l+1∧a.eval x=.pointer (some ⟨(m k).b,(m k).o,none⟩):=by
  generalize a.eval x=v at U
  cases U with
  |ptrL _ _ M _=>exact⟨M,by simp⟩
  |ptrD _ _ _ _ _ _ hd _=>rw[hd hg]at hl;cases hl
 obtain⟨M,A⟩:=M
 have W:(H k).e.isO=true:=by rw[he];rfl
 obtain⟨⟨hc0,hc1⟩,Z⟩:=X.mp.c k M hl W
 rw[hc1]at A
 have hob:=X.mp.o k M hl
 rw[he]at hob
 rcases hob with⟨e1,e2,u1,u2,u3,e3⟩|⟨r,ents,c,es,seen,b1,b2,b3,V,b5,b6⟩
 ·refine CF (v:=.tuple #[.bool false]) (w':=w) ?_ ?_
  ·simp[execOp,ho,A,Instr.next,getObj,Sem.run,e3]
  ·rw[hd]
   exact⟨_,h0 e1,R.step X hn F hS I (Ext.refl _ _ _ _ _) G (.tup _ _ rfl (fun i x v f T=>by
    match i with
    |0=>cases f;cases T;exact .d _ _ (.bool _)
    |i+1=>simp at f))⟩
 ·have E:∀(i j:Nat) (x y:MapEntry×List D),(ents.toList.zip es)[i]?=some x→(ents.toList.zip es)[j]?=some y→x.1.born=y.1.born→i=j:=fun i j x y f hy e=>
   V.born i j x.1 y.1 (by simpa using(l0 f).1) (by simpa using(l0 hy).1) e
  have N:∀e:MapEntry,e∈(leftOf ents seen).toList→∃(i:Nat) (d:List D),((ents.toList.zip es).filter (fun p=>!seen.contains p.1.born))[i]?=some (e,d):=fun e hm=>by
   have hm:e∈ents.toList∧(!seen.contains e.born)=true:=by simpa[leftOf]using hm
   obtain⟨j,hj⟩:=YB.1 hm.1
   have hlt:j<es.length:=by rw[←V.n];rw[Yx]at hj;exact GS hj
   have hz:(e,es[j])∈ents.toList.zip es:=YB.2 ⟨j,List.getElem?_zip_eq_some.2 ⟨hj,Ye hlt⟩⟩
   obtain⟨i,hi⟩:=YB.1 ((DD (p:=fun p:MapEntry×List D=>!seen.contains p.1.born)).2 ⟨hz,hm.2⟩)
   grind
  rcases run_next_at (P:=P) w o.type (m k).b r c c seen ents c b1 b3 (fun x f=>by
    obtain⟨i,hi⟩:=YB.1 f
    exact V.clk i x (by simpa using hi)) (Yh _)with⟨c1,c2⟩|⟨e,c1,C,c2,c3⟩
  ·have O:rest=[]:=by
    rw[b5,Zt,RB]
    intro p hp hb
    obtain⟨i,hi⟩:=YB.1 hp
    have:p.1∈(leftOf ents seen).toList:=by
     simp only[leftOf,Array.toList_filter,DD]
     grind
    grind
   refine CF (v:=.tuple #[.bool false]) (w':=w) ?_ ?_
   ·simp[execOp,ho,A,c2]
   ·rw[hd]
    exact⟨_,h0 O,R.step X hn F hS I (Ext.refl _ _ _ _ _) G (.tup _ _ rfl (fun i x v f T=>by
     match i with
     |0=>cases f;cases T;exact .d _ _ (.bool _)
     |i+1=>simp at f))⟩
  ·obtain⟨i,d',hi⟩:=N e c1
   have hzip:=DD.1 (Yj hi)
   obtain⟨j,hj⟩:=YB.1 hzip.1
   obtain⟨J,L⟩:=l0 hj
   simp only[Yx]at J L
   obtain⟨sk,ds,q1,q2,q3⟩:=V.e j _ _ L J
   subst q1
   have hri:rest[i]?=some (.str sk::ds):=by rw[b5,YV,hi];rfl
   have hre:rest.eraseIdx i=((ents.toList.zip es).filter (fun p=>!(seen.push e.born).contains p.1.born)).map (·.2):=by
    rw[b5]
    have:=iK (fun p:MapEntry×List D=>p.1.born) (fun p=>!seen.contains p.1.born) (ents.toList.zip es) E i _ hi
    rw[←jq,←this]
    grind
   have t:C.heap=w.heap∧C.os=w.os∧C.tape=w.tape∧C.output=w.output:=by rcases c2 with rfl|rfl<;>exact⟨rfl,rfl,rfl,rfl⟩
   have Y:=X.drew (w':=C) t.1 t.2.1 t.2.2.1 t.2.2.2
   have z:C.heap[(m k).b]?=some (.mapIter (some r) c seen c):=by rw[t.1];exact b1
   obtain⟨k1,k2⟩:=Y.1.writeO k M hl W (.i q (rest.eraseIdx i) (some (.str sk::ds))) rfl (.mapIter (some r) c (seen.push e.born) c) (w':=ChangeMaps.setBlock C (m k).b (.mapIter (some r) c (seen.push e.born) c))
    (FF z _) (by simp[ChangeMaps.setBlock]) (.inr ⟨r,ents,c,es,seen.push e.born,by rw[FF z];simp,b2,by rw[FF z,Yf (by rintro rfl;exact Z b2),t.1];exact b3,
     V.mono (fun _ h=>h) (fun b hb=>by rw[FF z,Yf (by rintro rfl;exact Z hb),t.1]),hre,fun e' he'=>by cases he';exact⟨j,e,L,J,by simp⟩⟩) rfl rfl rfl
   have u:=Y.2.trans k2
   refine CF (v:=.tuple #[.bool true,e.key,e.val]) (w':=ChangeMaps.setBlock C (m k).b (.mapIter (some r) c (seen.push e.born) c)) ?_ ?_
   ·simp[execOp,ho,A,c3]
   ·rw[hd]
    refine⟨_,h1 i _ hri,R.step k1 hn F hS I u G ?_⟩
    simp only[q6]
    refine .tup _ _ rfl (fun i x v f T=>?_)
    match i with
    |0=>cases f;cases T;exact .d _ _ (.bool _)
    |1=>cases f;cases T;rw[q2];exact .d _ _ (.str _)
    |2=>cases f;cases T;exact VQ (q3.mono u.s u.blk)
    |i+3=>simp at f
def Jy(z:ByteArray)(p:Nat):Int:=((Utf8.decode z p).1:Nat)
def EV(z:ByteArray)(p:Nat):Nat:=(Utf8.decode z p).2
theorem Zq7{t:TypeId}{x:Operand}{d:Nat}{z:ByteArray}(q:o.op=.range t x)(e:o.dst=some d)(r:P.underlying t=some .string)(y:ev s x=.d (.str z))
  (h:TK l n d (.s z 0) (fun g=>.ptr (l+1,d) g 0) K ⟨s,H⟩):B6 P l n B o K ⟨s,H⟩:=by
 intro a w k Q
 obtain⟨m,S,j,p,f,i,he⟩:=k.un
 have b:=Cf i x
 rw[y]at b
 have c:(execOp a.eval o).run P w=.ok (.value (.pointer (some ⟨w.heap.size,0,none⟩))) (w.alloc (.stringIter z 0)):=by
  generalize u:a.eval x=v at b
  cases b with
  |d _ _ e=>
   cases e
   simp[execOp,q,u,Instr.range,run_underlying r]
 obtain⟨A,C⟩:=j.allocO (l+1,d) (Yh _) ⟨(H (l+1,d)).g+1,true,.s z 0,0,[]⟩ rfl rfl (DU _) (.stringIter z 0) (w':=w.alloc (.stringIter z 0)) rfl (by show(w.alloc _).heap[w.heap.size]?=_;rw[H5,Yg rfl]) rfl rfl rfl
 refine CF c ?_
 rw[e]
 refine⟨_,h.2,R.step A p f i he C h.1 ?_⟩
 have:=RepA.ptrL (w:=w.alloc (.stringIter z 0)) (S:=S) (H:=updH H (l+1,d) ⟨(H (l+1,d)).g+1,true,.s z 0,0,[]⟩) (m:=Be m (l+1,d) ⟨w.heap.size,0,0⟩) (l:=l+1) (l+1,d) 0 (Yh _) (by rw[AQ])
 rw[AQ,A7]at this
 exact this
theorem ZtI{x:Operand}{d:Nat}{k:Ad}{g:Nat}{z:ByteArray}{p:Nat}(I:o.op=.next x true)(C:o.dst=some d)(c:ev s x=.ptr k g 0)(T:g=(H k).g)(hl:(H k).live=true)(he:(H k).e=.s z p)(t:d<n)
  (J:¬p<z.size→K ⟨upd s d (.tup [.d (.bool false)]),H⟩)
  (L:p<z.size→K ⟨upd s d (.tup [.d (.bool true),.d (.int .i64 (p:Int)),.d (.int .i32 (Jy z p))]),updH H k {H k with e:=.s z (p+EV z p) }⟩):B6 P l n B o K ⟨s,H⟩:=by
 intro a w M Q
 obtain⟨m,S,A,G,r,E,u⟩:=M.un
 have j:=Cf E x
 rw[c]at j
 have h:k.1≤l+1∧a.eval x=.pointer (some ⟨(m k).b,(m k).o,none⟩):=by
  generalize a.eval x=v at j
  cases j with
  |ptrL _ _ h _=>exact⟨h,by simp⟩
  |ptrD _ _ _ _ _ _ C _=>rw[C T]at hl;cases hl
 obtain⟨h,f⟩:=h
 have q:(H k).e.isO=true:=by rw[he];rfl
 obtain⟨⟨N,F⟩,O⟩:=A.mp.c k h hl q
 rw[F]at f
 have b:=A.mp.o k h hl
 rw[he]at b
 have b:w.heap[(m k).b]?=some (.stringIter z p):=b
 by_cases D:p<z.size
 ·obtain⟨U,V⟩:=A.writeO k h hl q (.s z (p+EV z p)) rfl (.stringIter z (p+EV z p)) (w':=ChangeMaps.setBlock w (m k).b (.stringIter z (p+EV z p))) (FF b _) (by simp[ChangeMaps.setBlock]) (by show(ChangeMaps.setBlock _ _ _).heap[_]?=_;rw[FF b,Yg rfl]) rfl rfl rfl
  refine CF (v:=.tuple #[.bool true,goInt p,.int .i32 (Jy z p)]) (w':=ChangeMaps.setBlock w (m k).b (.stringIter z (p+EV z p))) ?_ ?_
  ·simp[execOp,I,f,Instr.next,getObj,setObj,Sem.run,b,D,ChangeMaps.setBlock,Jy,EV]
  ·rw[C]
   refine⟨_,L D,R.step U G r E u V t ?_⟩
   refine .tup _ _ rfl (fun i x v c y=>?_)
   match i with
   |0=>cases c;cases y;exact .d _ _ (.bool _)
   |1=>cases c;cases y;exact .d _ _ (.int _ _)
   |2=>cases c;cases y;exact .d _ _ (.int _ _)
   |i+3=>simp at c
 ·refine CF (v:=.tuple #[.bool false]) (w':=w) ?_ ?_
  ·simp[execOp,I,f,Instr.next,getObj,Sem.run,b,D]
  ·rw[C]
   exact⟨_,J D,R.step A G r E u (Ext.refl _ _ _ _ _) t (.tup _ _ rfl (fun i x v c y=>by
    match i with
    |0=>cases c;cases y;exact .d _ _ (.bool _)
    |i+1=>simp at c))⟩
theorem ZuP{x:Operand}{d:Nat}{k:Ad}{g:Nat}{q:Bool}{rest:List (List D)}{sk:ByteArray}{ds:List D}(ho:o.op=.entry x)(L:o.dst=some d)(E:ev s x=.ptr k g 0)(hg:g=(H k).g)(hl:(H k).live=true)(he:(H k).e=.i q rest (some (.str sk::ds)))(N:d<n)
  (hK:K ⟨upd s d (.tup [.d (.str sk),Hl q ds]),updH H k {H k with e:=.i q rest none }⟩):B6 P l n B o K ⟨s,H⟩:=by
 intro a w hR Q
 obtain⟨m,S,I,hn,M,X,T⟩:=hR.un
 have t:=Cf X x
 rw[E]at t
 have h:k.1≤l+1∧a.eval x=.pointer (some ⟨(m k).b,(m k).o,none⟩):=by
  generalize a.eval x=v at t
  cases t with
  |ptrL _ _ h _=>exact⟨h,by simp⟩
  |ptrD _ _ _ _ _ _ L _=>rw[L hg]at hl;cases hl
 obtain⟨h,z⟩:=h
 have u:(H k).e.isO=true:=by rw[he];rfl
 obtain⟨⟨hc0,J⟩,hc2⟩:=I.mp.c k h hl u
 rw[J]at z
 have A:=I.mp.o k h hl
 rw[he]at A
 rcases A with⟨e1,e2,_⟩|⟨r,ents,c,es,seen,V,b2,W,F,b5,b6⟩
 ·cases e2
 ·obtain⟨i,x',c1,G,c3⟩:=b6 _ rfl
  obtain⟨sk',ds',q1,q2,q3⟩:=F.e i _ _ c1 G
  cases q1
  have f:ents.find? (fun y=>y.born==x'.born)=some x':=by
   rw[←Array.find?_toList]
   refine find_born x' ents.toList ?_ (by rw[←Yx]at G;exact Yj G)
   rw[List.nodup_iff_pairwise_ne,Zz]
   intro i j hi Y hij e
   rw[YE]at hi Y
   have Z:=Ye hi
   have C:=Ye Y
   rw[Yx]at Z C
   have:=F.born i j _ _ Z C (by simpa using e)
   omega
  have p:∀b,w.heap[b]?=if b=(m k).b then some (.mapIter (some r) c seen c)else w.heap[b]?:=fun b=>by
   grind
  obtain⟨k1,U⟩:=I.writeO k h hl u (.i q rest none) rfl (.mapIter (some r) c seen c) (w':=w) p rfl (.inr ⟨r,ents,c,es,seen,V,b2,W,F,b5,fun e' O=>by cases O⟩) rfl rfl rfl
  refine CF (v:=.tuple #[x'.key,x'.val]) (w':=w) ?_ ?_
  ·simp[execOp,ho,z,Instr.entry,getObj,Sem.run,V,W,c3,f]
  ·rw[L]
   refine⟨_,hK,R.step k1 hn M X T U N (.tup _ _ rfl (fun i x v E C=>?_))⟩
   match i with
   |0=>cases E;cases C;rw[q2];exact .d _ _ (.str _)
   |1=>cases E;cases C;exact VQ (q3.mono U.s U.blk)
   |i+2=>simp at E
end
def ZW4(x:EK)(e:Nat):Bool:=
 match x with
 |.t e'=>Nat.beq e' e
 |_=>false
theorem ZIo{x:EK}{e:Nat}(h:ZW4 x e=true):x=.t e:=by
 cases x with
 |t e'=>rw[Yd (show Nat.beq e' e=true from h)]
 |_=>cases h
def BM(a b:Ad):Bool:=Nat.beq a.1 b.1&&Nat.beq a.2 b.2
def AV.onef:AV→Bool
 |.top|.agg _|.tup _|.fn _ _ _=>false
 |_=>true
def Er(sz:Nat)(C:List AV)(y:AV)(c:Nat)(news:List AV):Prop:=
 news.all AV.onef=true∧match y with
 |.e0=>c=0∧news=[]
 |.d (.list es)=>(∀e∈es,e.length=sz)∧c=es.length∧news=es.flatten.map .d
 |.ref _ _ off n=>c=n∧(off+n)*sz≤C.length∧news=(C.drop (off*sz)).take (n*sz)
 |_=>False
def I9(C:List AV)(off a c sz byt:Nat)(news d:List AV)(b:Nat):Prop:=(off+a)*sz=C.length∧C.drop (off*sz)++news=d∧a+c=b∧b*byt≤140737488355328
def OA(c byt:Nat):Prop:=c*byt≤140737488355328
def Lu(r:Ren)(k:Ad):Prop:=k.1=0∧r.no (r.κ k)
def FX(r:Ren)(k:Ad)(vs:List AV):Prop:=(Aq r vs).all (AV.low (r.κ k).1)=true
def Hn(r:Ren)(k:Ad)(vs:List AV)(A:Prop):Prop:=
 match Nat.beq k.1 1 with
 |true=>A
 |false=>Lu r k∧FX r k vs∧A
def Iz(C:List AV)(off:Nat)(vs a:List AV):Prop:=off+vs.length≤C.length∧C.take off++vs++C.drop (off+vs.length)=a
def IZ(n d:Nat)(e:TypeId)(sz:Nat)(cells:List AV)(x:Nat→AV)(K:St→AT→Prop)(τ:St)(a:AT):Prop:=
 match Nat.ble (d+1) n with
 |true=>K ⟨upd τ.s d (x ((τ.H (1,d)).g+1)),updH τ.H (1,d) ⟨(τ.H (1,d)).g+1,true,e,sz,cells⟩⟩ a
 |false=>False
def cellsOf(H:Hp):AV→List AV
 |.ref k g _ _=>match BO H k g with|true=>(H k).cells|false=>[]
 |_=>[]
def S3(H:Hp)(sz:Nat):AV→Bool
 |.ref k g _ _=>BO H k g&&Nat.beq (H k).sz sz
 |_=>true
def fB(T:Nat→Option TI)(r:Ren)(n d:Nat)(t:TypeId)(x y:AV)(a:AT)(K:St→AT→Prop)(τ:St):Prop:=
 match T t with
 |some i=>match i.elm with
  |some (e,sz)=>match T e,Nat.ble 1 sz,S3 τ.H sz y with
   |some j,true,true=>(match j.byt,j.zer,x,a with
    |some byt,some _,.e0,.nat c (.cs news b)=>Er sz (cellsOf τ.H y) y c news∧OA c byt∧IZ n d e sz news (fun g=>.ref (1,d) g 0 c) K τ b
    |some byt,some _,.ref k q off l,.nat c (.cs news (.cs f (.nat h b)))=>(match BO τ.H k q,Nat.beq (τ.H k).sz sz,ZW4 (τ.H k).e e,Nat.ble (d+1) n with
     |true,true,true,true=>Er sz (cellsOf τ.H y) y c news∧I9 (τ.H k).cells off l c sz byt news f h∧Hn r k news (K ⟨upd τ.s d (.ref k (q+1) 0 h),updH τ.H k ⟨q+1,true,e,sz,f⟩⟩ b)
     |_,_,_,_=>False)
    |_,_,_,_=>False)
   |_,_,_=>False
  |none=>False
 |none=>False
def Pz(r:Ren)(n:Nat)(i:TI)(x:AV)(vs:Option (List AV))(a:AT)(K:St→AT→Prop)(τ:St):Prop:=
 match x,vs with
 |.ptr k q off,some vs=>match BO τ.H k q,Nat.beq vs.length i.siz,Nat.ble 1 vs.length with
  |true,true,true=>(match a with
   |.go b=>(match Nat.ble (off+vs.length) (τ.H k).cells.length with
    |true=>Hn r k vs (K ⟨τ.s,updH τ.H k ⟨q,true,(τ.H k).e,(τ.H k).sz,(τ.H k).cells.take off++vs++(τ.H k).cells.drop (off+vs.length)⟩⟩ b)
    |false=>False)
   |.cs c b=>Iz (τ.H k).cells off vs c∧Hn r k vs (K ⟨τ.s,updH τ.H k ⟨q,true,(τ.H k).e,(τ.H k).sz,c⟩⟩ b)
   |_=>False)
  |_,_,_=>False
 |_,_=>False
def sn(c a:Int)(byt m:Nat)(z C:List AV):Prop:=c=(m:Int)∧c≤a∧(byt:Int)*a≤140737488355328∧(List.replicate m z).flatten=C
def Kq(P:Program)(T:Nat→Option TI)(l n:Nat)(r:Ren)(o:Oper)(a:AT)(K:St→AT→Prop)(τ:St):Prop:=
 match o.op with
 |.alloc t=>match o.dst,T t with
  |some d,some i=>(match i.zer with|some (z::f)=>IZ n d t (f.length+1) (z::f) (fun g=>.ptr (1,d) g 0) K τ a|_=>False)
  |_,_=>False
 |.box t x=>match o.dst,C1 (ev τ.s x),IQ (ev τ.s x)with
  |some d,some (z::f),true=>IZ n d t (f.length+1) (z::f) (fun g=>.ptr (1,d) g 0) K τ a
  |_,_,_=>False
 |.store t p x=>match o.dst,T t,IQ (ev τ.s x)with
  |none,some i,true=>Pz r n i (ev τ.s p) (C1 (ev τ.s x)) a K τ
  |_,_,_=>False
 |.buildSlice t len parts=>match o.dst,T t with
  |some d,some i=>(match i.elm with
   |some (e,sz)=>(match Nat.ble 1 sz,len with
    |true,0=>(match parts.toList with|[]=>Fi n d K τ .e0 a|_=>False)
    |true,len+1=>(match T e,Nat.ble ((len+1)*sz) 16777216 with
     |some j,true=>(match j.zer with
      |some z=>(match Nat.beq z.length sz,F8 sz 0 (parts.toList.map fun p=>(p.1,ev τ.s p.2))with
       |true,some es=>(match Nat.beq es.length (len+1)with|true=>Fi n d K τ (.d (.list es)) a|false=>False)
       |_,_=>False)
      |none=>False)
     |_,_=>False)
    |_,_=>False)
   |none=>False)
  |_,_=>False
 |.makeSlice t x y=>match o.dst,T t,ev τ.s x,ev τ.s y,a with
  |some d,some i,.d (.int _ c),.d (.int _ h),.nat m (.cs C b)=>(match i.elm with
   |some (e,sz)=>(match T e,Nat.ble 1 sz with
    |some j,true=>(match j.zer,j.byt with
     |some z,some byt=>(match Nat.beq z.length sz with
      |true=>sn c h byt m z C∧IZ n d e sz C (fun g=>.ref (1,d) g 0 m) K τ b
      |false=>False)
     |_,_=>False)
    |_,_=>False)
   |none=>False)
  |_,_,_,_,_=>False
 |.call c=>match c.callee with
  |.builtin .append=>(match o.dst,c.args.toList,c.argTypes.toList with
   |some d,[x,y],[t,k]=>(match Nat.beq t k with|true=>fB T r n d t (ev τ.s x) (ev τ.s y) a K τ|false=>False)
   |_,_,_=>False)
  |_=>(match o.dst with|some d=>pV P T l r τ o.op none a (Fi n d K τ)|none=>False)
 |_=>match o.dst with|some d=>pV P T l r τ o.op none a (Fi n d K τ)|none=>False
def TC(n:Nat)(K:St→AT→Prop)(s:Nat→AV)(H:Hp)(v:AV)(b:AT):Option Nat→Prop
 |some d=>match Nat.ble (d+1) n with|true=>K ⟨upd s d v,H⟩ b|false=>False
 |none=>K ⟨s,H⟩ b
def zn(T:Nat→Option TI)(r:Ren)(n:Nat)(d:Option Nat)(t l:Nat)(x y:AV)(a:AT)(K:St→AT→Prop)(τ:St):Prop:=
 match T t,T l with
 |some i,some h=>match i.elm,h.elm with
  |some (e,sz),some (e',f)=>match Nat.beq e e',Nat.beq sz f,T e,Nat.ble 1 sz,S3 τ.H sz y with
   |true,true,some j,true,true=>(match j.zer,x,a with
    |some _,.ref k q off cn,.nat c (.cs news (.cs g b))=>(match BO τ.H k q,Nat.beq (τ.H k).sz sz with
     |true,true=>Er sz (cellsOf τ.H y) y c news∧c≤cn∧Iz (τ.H k).cells (off*sz) news g∧Hn r k news (TC n K τ.s (updH τ.H k ⟨q,true,(τ.H k).e,(τ.H k).sz,g⟩) (.d (.int .i64 c)) b d)
     |_,_=>False)
    |_,_,_=>False)
   |_,_,_,_,_=>False
  |_,_=>False
 |_,_=>False
def fV(C:List AV)(off cn sz:Nat)(z a:List AV):Prop:=(off+cn)*sz≤C.length∧C.take (off*sz)++(List.replicate cn z).flatten++C.drop ((off+cn)*sz)=a
def vO(T:Nat→Option TI)(r:Ren)(t:Nat)(x:AV)(a:AT)(K:St→AT→Prop)(τ:St):Prop:=
 match T t with
 |some i=>match i.elm with
  |some (e,sz)=>match T e,Nat.ble 1 sz with
   |some j,true=>(match j.zer,x,a with
    |some z,.ref k q off cn,.cs c b=>(match BO τ.H k q,Nat.beq (τ.H k).sz sz,Nat.beq z.length sz with
     |true,true,true=>fV (τ.H k).cells off cn sz z c∧Hn r k z (K ⟨τ.s,updH τ.H k ⟨q,true,(τ.H k).e,(τ.H k).sz,c⟩⟩ b)
     |_,_,_=>False)
    |_,_,_=>False)
   |_,_=>False
  |none=>False
 |none=>False
def IV(P:Program)(T:Nat→Option TI)(l n:Nat)(r:Ren)(o:Oper)(a:AT)(K:St→AT→Prop)(τ:St):Prop:=
 match o.op with
 |.call c=>(match c.callee with
  |.builtin .copy=>(match c.args.toList,c.argTypes.toList with|[x,y],[t,b]=>zn T r n o.dst t b (ev τ.s x) (ev τ.s y) a K τ|_,_=>False)
  |.builtin .clear=>(match c.args.toList,c.argTypes.toList,o.dst with|[x],[t],none=>vO T r t (ev τ.s x) a K τ|_,_,_=>False)
  |_=>Kq P T l n r o a K τ)
 |_=>Kq P T l n r o a K τ
def uG(T:Nat→Option TI)(n:Nat)(b:Option Nat)(t len:Nat)(vs:List (Nat×AV))(a:AT)(K:St→AT→Prop)(τ:St):Prop:=
 match b,T t with
 |some d,some i=>(match i.elm with
  |some (e,sz)=>(match T e,Nat.ble 1 sz,Nat.ble ((len+1)*sz) 16777216 with
   |some j,true,true=>(match j.zer with
    |some z=>(match Nat.beq z.length sz,CA (fun i=>some (i*sz,sz)) (List.replicate (len+1) z).flatten vs,vs.all (fun p=>IQ p.2)with
     |true,some cs,true=>(match z.all AV.flat with|true=>IZ n d e sz cs (fun g=>.ref (1,d) g 0 (len+1)) K τ a|false=>False)
     |_,_,_=>False)
    |none=>False)
   |_,_,_=>False)
  |none=>False)
 |_,_=>False
def I0(P:Program)(T:Nat→Option TI)(l n:Nat)(r:Ren)(o:Oper)(a:AT)(K:St→AT→Prop)(τ:St):Prop:=
 match o.op with
 |.buildSlice t (len+1) parts=>(match a with
  |.go b=>uG T n o.dst t len (parts.toList.map fun p=>(p.1,ev τ.s p.2)) b K τ
  |.sep b=>IV P T l n r o b K τ
  |a=>IV P T l n r o a K τ)
 |_=>IV P T l n r o a K τ
def Qd(n d:Nat)(e:EK)(x:Nat→AV)(K:St→AT→Prop)(τ:St)(a:AT):Prop:=
 match Nat.ble (d+1) n with
 |true=>K ⟨upd τ.s d (x ((τ.H (1,d)).g+1)),updH τ.H (1,d) ⟨(τ.H (1,d)).g+1,true,e,0,[]⟩⟩ a
 |false=>False
def ZYo(s:Nat→AV):Option Operand→Bool
 |none=>true
 |some x=>match ev s x with|.d (.int _ _)=>true|_=>false
def ZXQ(s:ByteArray)(ds:List D)(es a:List (List D)):Prop:=Dx s ds es=a
def ZXz(s:ByteArray)(es a:List (List D)):Prop:=Dw s es=a
def ZXE(rest:List (List D))(i:Nat)(e:List D)(es:List (List D)):Prop:=rest[i]?=some e∧rest.eraseIdx i=es
def NH(T:Nat→Option TI)(r:Ren)(d:Option Nat)(t:Nat)(x y z:AV)(a:AT)(K:St→AT→Prop)(τ:St):Prop:=
 match d,T t,x,y with
 |none,some i,.mp k g,.d (.str s)=>(match i.mp,BO τ.H k g,(τ.H k).e with
  |some (q,_),true,.m e es=>(match Nx q e,Km q z,a with
   |true,some ds,.ents c b=>ZXQ s ds es c∧Hn r k [] (K ⟨τ.s,updH τ.H k ⟨g,true,.m q c,(τ.H k).sz,(τ.H k).cells⟩⟩ b)
   |_,_,_=>False)
  |_,_,_=>False)
 |_,_,_,_=>False
def pMd(T:Nat→Option TI)(r:Ren)(d:Option Nat)(t:Nat)(x y:AV)(a:AT)(K:St→AT→Prop)(τ:St):Prop:=
 match d,T t,x,y with
 |none,some i,.mp k g,.d (.str s)=>(match i.mp,BO τ.H k g,(τ.H k).e with
  |some (q,_),true,.m e es=>(match Nx q e,a with
   |true,.ents c b=>ZXz s es c∧Hn r k [] (K ⟨τ.s,updH τ.H k ⟨g,true,.m q c,(τ.H k).sz,(τ.H k).cells⟩⟩ b)
   |_,_=>False)
  |_,_,_=>False)
 |_,_,_,_=>False
def pNx(n d:Nat)(k:Ad)(g:Nat)(q:Bool)(rest:List (List D))(a:AT)(K:St→AT→Prop)(τ:St):Prop:=
 match Nat.ble (d+1) n,a with
 |true,.all a0 f=>(rest=[]→K ⟨upd τ.s d (.tup [.d (.bool false)]),τ.H⟩ a0)∧∀i,i<rest.length→(match f i with
  |.ds (.str s::ds) (.ents es b)=>ZXE rest i (.str s::ds) es∧K ⟨upd τ.s d (.tup [.d (.bool true),.d (.str s),Hl q ds]),updH τ.H k ⟨g,true,.i q es (some (.str s::ds)),(τ.H k).sz,(τ.H k).cells⟩⟩ b
  |_=>False)
 |_,_=>False
def pNs(n d:Nat)(k:Ad)(g:Nat)(z:ByteArray)(p:Nat)(a:AT)(K:St→AT→Prop)(τ:St):Prop:=
 match Nat.ble (d+1) n,a with
 |true,.br a1 a0=>(decide (p<z.size)=true→K ⟨upd τ.s d (.tup [.d (.bool true),.d (.int .i64 (p:Int)),.d (.int .i32 (Jy z p))]),updH τ.H k ⟨g,true,.s z (p+EV z p),(τ.H k).sz,(τ.H k).cells⟩⟩ a1)∧(decide (p<z.size)=false→K ⟨upd τ.s d (.tup [.d (.bool false)]),τ.H⟩ a0)
 |_,_=>False
def HG(P:Program)(T:Nat→Option TI)(l n:Nat)(r:Ren)(o:Oper)(a:AT)(K:St→AT→Prop)(τ:St):Prop:=
 match o.op with
 |.makeMap t b=>(match o.dst,T t,ZYo τ.s b with
  |some d,some i,true=>(match i.mp with|some (q,_)=>Qd n d (.m q []) (fun g=>.mp (1,d) g) K τ a|none=>False)
  |_,_,_=>False)
 |.mapUpdate t x y z=>NH T r o.dst t (ev τ.s x) (ev τ.s y) (ev τ.s z) a K τ
 |.insert t x y z=>NH T r o.dst t (ev τ.s x) (ev τ.s y) (ev τ.s z) a K τ
 |.range t x=>(match o.dst,T t,ev τ.s x with
  |some d,some i,.d (.map q es)=>(match i.mp with|some _=>Qd n d (.i q es none) (fun g=>.ptr (1,d) g 0) K τ a|none=>False)
  |some d,some i,.d (.str z)=>(match Nat.beq i.kin 2 with|true=>Qd n d (.s z 0) (fun g=>.ptr (1,d) g 0) K τ a|false=>False)
  |_,_,_=>False)
 |.next x false=>(match o.dst,ev τ.s x with
  |some d,.ptr k g 0=>(match Nat.beq k.1 1,BO τ.H k g,(τ.H k).e with
   |true,true,.i q rest _=>pNx n d k g q rest a K τ
   |_,_,_=>False)
  |_,_=>False)
 |.next x true=>(match o.dst,ev τ.s x with
  |some d,.ptr k g 0=>(match Nat.beq k.1 1,BO τ.H k g,(τ.H k).e with
   |true,true,.s z p=>pNs n d k g z p a K τ
   |_,_,_=>False)
  |_,_=>False)
 |.entry x=>(match o.dst,ev τ.s x with
  |some d,.ptr k g 0=>(match Nat.beq k.1 1,BO τ.H k g,(τ.H k).e,Nat.ble (d+1) n with
   |true,true,.i q rest (some (.str s::ds)),true=>K ⟨upd τ.s d (.tup [.d (.str s),Hl q ds]),updH τ.H k ⟨g,true,.i q rest none,(τ.H k).sz,(τ.H k).cells⟩⟩ a
   |_,_,_,_=>False)
  |_,_=>False)
 |.call c=>(match c.callee with
  |.builtin .delete=>(match c.args.toList,c.argTypes.toList with|[x,y],[t,_]=>pMd T r o.dst t (ev τ.s x) (ev τ.s y) a K τ|_,_=>False)
  |_=>I0 P T l n r o a K τ)
 |_=>I0 P T l n r o a K τ
def Dt(env:BZ):Option Nat→BZ
 |some d=>(d,[])::env
 |none=>env
def FM(env:BZ):Option Nat→Bool
 |some d=>fresh d env
 |none=>true
def G5(P:Program)(T:Nat→Option TI)(l n:Nat)(r:Ren)(ds:List (Option Nat)):List Oper→BZ→AT→(St→BZ→AT→Prop)→St→Prop
 |[],env,a,K,τ=>K τ env a
 |o::rest,env,a,K,τ=>match o.guard with
  |none=>(match Cg env [] o.op,FM env o.dst with
   |true,true=>HG P T l n r o a (fun τ' c=>G5 P T l n r ds rest (Dt env o.dst) c K τ') τ
   |_,_=>False)
  |some (i,b)=>(match Bu ds i,o.dst with
   |some (some d),some e=>(match GX τ.s ((d,b)::lk env d),Cg env ((d,b)::lk env d) o.op,fresh e env&&Na e ((d,b)::lk env d),Nat.ble (e+1) n with
    |some g,true,true,true=>pV P T l r τ o.op (some g) a (fun v c=>G5 P T l n r ds rest ((e,(d,b)::lk env d)::env) c K ⟨upd τ.s e v,τ.H⟩)
    |_,_,_,_=>False)
   |_,_=>False)
def fm(P:Program)(T:Nat→Option TI)(l n:Nat)(r:Ren)(o:Oper)(a:AT)(K:St→AT→Prop)(τ:St):Prop:=
 match o.op,o.dst with
 |.buildSlice t (len+1) ps,some d=>pV P T l r τ (.buildSlice t (len+1) ps) none a (Fi n d K τ)
 |_,_=>HG P T l n r o a K τ
def G0(P:Program)(T:Nat→Option TI)(l n:Nat)(r:Ren)(ds:List (Option Nat)):List Oper→BZ→AT→(St→BZ→AT→Prop)→St→Prop
 |[],env,a,K,τ=>K τ env a
 |o::rest,env,a,K,τ=>match o.guard with
  |none=>(match Cg env [] o.op,FM env o.dst with
   |true,true=>fm P T l n r o a (fun τ' c=>G0 P T l n r ds rest (Dt env o.dst) c K τ') τ
   |_,_=>False)
  |some (i,b)=>(match Bu ds i,o.dst with
   |some (some d),some e=>(match GX τ.s ((d,b)::lk env d),Cg env ((d,b)::lk env d) o.op,fresh e env&&Na e ((d,b)::lk env d),Nat.ble (e+1) n with
    |some g,true,true,true=>pV P T l r τ o.op (some g) a (fun v c=>G0 P T l n r ds rest ((e,(d,b)::lk env d)::env) c K ⟨upd τ.s e v,τ.H⟩)
    |_,_,_,_=>False)
   |_,_=>False)
section
variable {P:Program} {T:Nat→Option TI} {r:Ren} {l n outs:Nat} {B:Base} {env:BZ} {τ σ:St} {a:AT} {o:Oper}
theorem R.adopt{act:Act}{w:World}{d:Nat}{e:TypeId}{sz:Nat}{s:Nat→AV}{H:Hp}(h:R l n B ⟨s,H⟩ act w)(k:Ad)(P:k.1=l+1)(g:Nat)(M:(H k).g<g)(L:s d=.e0):R l n B ⟨upd s d (.ref k g 0 0),updH H k ⟨g,true,e,sz,[]⟩⟩ act w:=by
 obtain⟨m,S,o,N,u,D,hex⟩:=h.un
 have c:Ext (l+1) H m S w (updH H k ⟨g,true,e,sz,[]⟩) (Be m k ⟨0,0,0⟩) S w:=by
  refine⟨fun _ h=>h,fun _ _=>rfl,fun q f=>?_,fun q f E hl=>?_,rfl,rfl,rfl,Yh _⟩
  ·by_cases a:q=k
   ·subst a;rw[AQ];simp only;omega
   ·rw[AJ _ _ a];exact Yh _
  ·by_cases a:q=k
   ·subst a;rw[AQ]at E;simp only at E;omega
   ·rw[AJ _ _ a]at hl⊢;rw[A4 _ _ a];exact⟨hl,rfl,rfl⟩
 have t:Ok (l+1) (updH H k ⟨g,true,e,sz,[]⟩) (Be m k ⟨0,0,0⟩) S w:=by
  refine⟨o.sub,fun q f hl b=>?_,fun q f hl b=>?_,fun q G f y hl r b j he=>?_,fun q f hl b=>?_,o.mp.upd (Yh _) k _ rfl (fun q e=>A4 _ _ e) (fun _ h=>h) (fun _ h=>.inl h) (fun _ _=>rfl) (fun _ _ h _=>h)⟩
  ·by_cases a:q=k
   ·subst a;rw[AQ]
   ·rw[AJ _ _ a]at hl⊢;rw[A4 _ _ a]at b;exact o.empty q f hl b
  ·by_cases a:q=k
   ·subst a;rw[A7]at b;exact absurd rfl b
   ·rw[AJ _ _ a]at hl;rw[A4 _ _ a]at b⊢;exact o.fresh q f hl b
  ·have p:q≠k:=by rintro rfl;rw[A7]at b;exact b rfl
   have A:G≠k:=by rintro rfl;rw[A7]at j;exact j rfl
   rw[AJ _ _ p]at hl;rw[AJ _ _ A]at r
   rw[A4 _ _ p]at b he;rw[A4 _ _ A]at j he
   exact o.inj q G f y hl r b j he
  ·have p:q≠k:=by rintro rfl;rw[A7]at b;exact b rfl
   rw[AJ _ _ p]at hl⊢;rw[A4 _ _ p]at b⊢
   obtain⟨C,I,J,K,z⟩:=o.blk q f hl b
   exact⟨C,I,J,K,fun i x v hi F=>⟨(z i x v hi F).1,(z i x v hi F).2.ext c f⟩⟩
 refine⟨_,_,t,N,u,fun i=>?_,hex.trans (c.mono (by omega))⟩
 simp only[upd]
 by_cases hi:i=d
 ·subst hi
  rw[Yg rfl]
  have:=D i
  rw[L]at this
  generalize act.tmps.getD i Go.undef=v at this⊢
  cases this with
  |e0 O=>
   have:=RepA.refL (w:=w) (S:=S) (H:=updH H k ⟨g,true,e,sz,[]⟩) (m:=Be m k ⟨0,0,0⟩) (l:=l+1) k 0 0 O (by omega) (by rw[AQ]) (by rw[A7];simp) (fun h=>by rw[A7]at h;simp at h)
   rw[AQ,A7]at this
   exact this
 ·rw[Yf hi]
  exact(D i).ext c (Yh _)
def J7(r:Ren)(outs:Nat)(k:Ad):Prop:=k.1=1∨(k.1=0∧k.2<outs∧r.no (r.κ k))
theorem RenOk.ne(a:RenOk r l outs){q k:Ad}(f:q.1=1∨(q.1=0∧q.2<outs))(e:k.1=1∨(k.1=0∧k.2<outs))(b:q≠k):r.κ q≠r.κ k:=fun he=>by
 obtain⟨i,j⟩:=q
 obtain⟨g,h⟩:=k
 simp only at f e
 rcases f with rfl|⟨rfl,c⟩<;>rcases e with rfl|⟨rfl,d⟩
 ·rw[a.own,a.own]at he;simp at he;exact b (by rw[he])
 ·rw[a.own]at he;have:=a.out _ d;rw[←he]at this;simp at this;omega
 ·rw[a.own]at he;have:=a.out _ c;rw[he]at this;simp at this;omega
 ·exact b (by rw[a.inj _ _ c d he])
theorem J7.lk{k:Ad}(h:J7 r outs k):k.1=1∨(k.1=0∧k.2<outs):=by
 rcases h with h|⟨a,b,_⟩
 ·grind
 grind
theorem RG.updK(j:RenOk r l outs)(h:RG r l outs env τ σ)(k:Ad)(b m:Blk)(p:b.live=true→m=AL r k b)(o:m.g=r.γ k+b.g)(g:J7 r outs k):
  RG r l outs env ⟨τ.s,Go.Eng.updH τ.H k b⟩ ⟨σ.s,Go.Eng.updH σ.H (r.κ k) m⟩:=by
 have f:=g.lk
 refine⟨h.s,fun q c=>?_,fun d=>?_,fun i hi=>?_,fun q c=>?_,fun q c s=>?_⟩
 ·simp only at c⊢
  by_cases e:q=k
  ·subst e;rw[AQ]at c⊢;rw[AQ];exact p c
  ·rw[AJ _ _ e]at c⊢;rw[AJ _ _ (j.ne (h.k _ c) f e)];exact h.h q c
 ·simp only
  by_cases a:((1,d):Ad)=k
  ·subst a;rw[AQ,j.own,AQ];exact o
  ·have n:((l+1,d):Ad)≠r.κ k:=by rw[←j.own d];exact j.ne (.inl rfl) f a
   rw[AJ _ _ a,AJ _ _ n]
   exact h.g d
 ·simp only
  by_cases a:((0,i):Ad)=k
  ·subst a;rw[AQ,AQ];exact o
  ·rw[AJ _ _ a,AJ _ _ (j.ne (.inr ⟨rfl,hi⟩) f a)]
   exact h.go i hi
 ·simp only at c
  by_cases e:q=k
  ·grind
  ·rw[AJ _ _ e]at c;exact h.k q c
 ·simp only
  have n:q≠r.κ k:=by
   rintro rfl
   rcases g with g|⟨_,_,g⟩
   ·obtain⟨t,u⟩:=k
    simp only at g
    subst g
    rw[j.own]at c
    grind
   grind
  rw[AJ _ _ n]
  exact h.o q c s
theorem RG.updH(c:RenOk r l outs)(h:RG r l outs env τ σ)(k:Ad)(b:Blk)(d:b.live=true)(a:J7 r outs k):
  RG r l outs env ⟨τ.s,Go.Eng.updH τ.H k b⟩ ⟨σ.s,Go.Eng.updH σ.H (r.κ k) (AL r k b)⟩:=RG.updK c h k b _ (fun _=>rfl) rfl a
theorem M0(i:RenOk r l outs)(h:RG r l outs env τ σ){k:Ad}(hl:(τ.H k).live=true){vs:List AV}{A:Prop}(b:Hn r k vs A):A∧J7 r outs k∧((r.κ k).1=l+1∨(Aq r vs).all (AV.low (r.κ k).1)=true):=by
 unfold Hn at b
 split at b
 ·rename_i a
  have a:=Yd a
  obtain⟨j,m⟩:=k
  simp only at a
  subst a
  exact⟨b,.inl rfl,.inl (by rw[i.own])⟩
 ·obtain⟨⟨d,e⟩,f,g⟩:=b
  rcases h.k k hl with c|⟨_,c⟩
  ·omega
  ·exact⟨g,.inr ⟨d,c,e⟩,.inr f⟩
theorem Bc{s:Nat→AV}:C8 s []:=fun q a=>by cases a
theorem RG.put0(h:RG r l outs env τ σ){d:Nat}(a:fresh d env=true){v y:AV}(hy:y=ren r v):RG r l outs ((d,[])::env) ⟨upd τ.s d v,τ.H⟩ ⟨upd σ.s d y,σ.H⟩:=
 h.put a rfl (fun _=>hy) (fun b=>absurd Bc b)
def La(r:Ren)(l outs:Nat)(env:BZ)(K:St→AT→Prop)(σ:St):Prop:=∃τ a,K τ a∧RG r l outs env τ σ
theorem Mw(i:RenOk r l outs)(h:RG r l outs env τ σ){K:St→AT→Prop}{d:Nat}(m:fresh d env=true){e:TypeId}{sz:Nat}{cells:List AV}{x x':Nat→AV}(o:∀g,x' (r.γ (1,d)+g)=ren r (x g))(b:IZ n d e sz cells x K τ a):
  Eo l n d e sz (Aq r cells) x' (La r l outs ((d,[])::env) K) σ:=by
 unfold IZ at b
 split at b
 ·rename_i f
  have f:=Yi f
  refine⟨by omega,_,_,b,?_⟩
  have k:=h.put0 (v:=x ((τ.H (1,d)).g+1)) (y:=x' ((σ.H (l+1,d)).g+1)) m (by rw[h.g,YG];exact o _)
  have c:=RG.updH i k (1,d) ⟨(τ.H (1,d)).g+1,true,e,sz,cells⟩ rfl (.inl rfl)
  have j:AL r (1,d) ⟨(τ.H (1,d)).g+1,true,e,sz,cells⟩=⟨(σ.H (l+1,d)).g+1,true,e,sz,Aq r cells⟩:=by
   simp only[AL,h.g,YG]
  rw[j,i.own]at c
  exact c
 grind
theorem VB{K:St→AT→Prop}(h:RG r l outs env τ σ){d:Nat}(c:fresh d env=true){y:AV}(hy:KR r (Fi n d K τ) y):d<n∧La r l outs ((d,[])::env) K ⟨upd σ.s d y,σ.H⟩:=by
 obtain⟨v,e,rfl,a⟩:=hy
 unfold Fi at a
 split at a
 ·rename_i b
  have b:=Yi b
  exact⟨by omega,_,_,a,h.put0 c rfl⟩
 grind
section
variable {H:Hp} {K K':AV→Prop} {t:TypeId} {x y:AV}
theorem jl(a:∀y,K y→K' y)(h:EN P H t x K):EN P H t x K':=by
 unfold EN at h⊢
 split at h
 ·grind
 ·grind
 grind
theorem Zi3{i:Nat}(a:∀y,K y→K' y)(h:Fb P H t i x K):Fb P H t i x K':=by
 unfold Fb at h⊢
 grind
theorem Zqy{i:Nat}(a:∀y,K y→K' y)(h:Fe P t i x K):Fe P t i x K':=by
 unfold Fe at h⊢
 split at h
 ·split at h
  ·grind
  grind
 grind
theorem Zjc(a:∀y,K y→K' y)(h:EE P H t x y K):EE P H t x y K':=by
 unfold EE at h⊢
 grind
theorem Zrs(a:∀y,K y→K' y)(h:FJ P t x y K):FJ P t x y K':=by
 unfold FJ at h⊢
 grind
theorem ZpM{neg:Bool}(a:∀y,K y→K' y)(h:D8 H neg x K):D8 H neg x K':=by
 unfold D8 at h⊢
 grind
theorem ZCr{op:BinOp}{b:Bool}(a:∀y,K y→K' y)(h:CK P H op t b x y K):CK P H op t b x y K':=by
 unfold CK at h⊢
 split at h
 ·exact⟨h.1,ZlT a h.2⟩
 ·exact Zli a h
 ·grind
 ·unfold G6 at h⊢
  split at h
  ·split at h
   ·grind
   grind
  grind
 ·refine⟨h.1,h.2.1,?_⟩
  replace h:=h.2.2
  split at h
  ·exact ZpM a h
  ·exact ZpM a h
  grind
 grind
theorem ZHZ{op:UnOp}(a:∀y,K y→K' y)(h:EX op x K):EX op x K':=by
 unfold EX at h⊢
 grind
theorem Zvh{u:TypeId}(a:∀y,K y→K' y)(h:Ff P t u x K):Ff P t u x K':=by
 unfold Ff at h⊢
 grind
theorem Zqt{lo hi:Option AV}{a:Bool}(b:∀y,K y→K' y)(h:EH P H t x lo hi a K):EH P H t x lo hi a K':=by
 unfold EH at h⊢
 grind
theorem ZzC(a:∀y,K y→K' y)(h:D3 P H t x K):D3 P H t x K':=by
 unfold D3 at h⊢
 grind
theorem Zqp{ps:List (Nat×AV)}(a:∀y,K y→K' y)(h:FL P t ps K):FL P t ps K':=by
 unfold FL at h⊢
 grind
theorem V0{op:Op}{ρ:Operand→AV}(d:∀y,K y→K' y)(h:Bb P H op ρ K):Bb P H op ρ K':=by
 cases op<;>simp only[Bb]at h⊢<;>try exact h.elim
 case move x=>exact d _ h
 case assign x=>exact d _ h
 case pick c a b=>
  split at h
  ·grind
  ·grind
 case load=>exact jl d h
 case fieldAddr=>exact Zi3 d h
 case field=>exact Zqy d h
 case indexAddr=>exact Zjc d h
 case index=>exact Zrs d h
 case extract=>
  split at h
  ·grind
  ·grind
 case makeInterface=>
  refine⟨h.1,?_⟩
  replace h:=h.2
  repeat' split at h
  all_goals first|exact h.elim|exact d _ h
 case typeAssert=>
  refine⟨h.1,?_⟩
  replace h:=h.2
  repeat' split at h
  all_goals first|exact h.elim|exact⟨h.1,d _ h.2⟩
 case binOp=>exact ZCr d h
 case unOp=>exact ZHZ d h
 case convert=>exact Zvh d h
 case nilCheck=>
  unfold IW at h⊢
  split at h
  ·grind
  ·grind
  ·grind
 case makeFunc=>exact d _ h
 case slice=>exact Zqt d h
 case build=>exact Zqp d h
 case lookup=>exact Zms d h
 case call c=>
  split at h
  ·exact⟨h.1,ZzC d h.2⟩
  ·split at h
   ·unfold EA at h⊢
    grind
   ·unfold G8 at h⊢
    grind
   grind
  ·grind
end
end
end Go.Eng
