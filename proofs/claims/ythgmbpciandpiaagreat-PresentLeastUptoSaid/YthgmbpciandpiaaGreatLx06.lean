import Derived.Test.YthgmbpciandpiaaGreatLx05
import Derived.Test.YthgmbpciandpiaaGreatLx03
import Derived.Test.YthgmbpciandpiaaGreatLx00
namespace Go.Eng
set_option linter.all false
open Go Go.RowKit
section
variable {P:Program} {l n:Nat} {B:Base} {H H':Hp} {m m':Mu} {S S':Nat→Prop} {w w':World} {s:Nat→AV} {a:Act} {K:St→Prop} {o:Oper}
def JQ:Bool→AV→Option (List D)
 |true,.agg xs=>CX xs
 |false,x=>(D2 x).map fun d=>[d]
 |_,_=>none
theorem ZoW{x:AV}{d:D}{v:Value}(h:D2 x=some d)(b:RepA w S H m l x v):RepD w S d v:=by
 cases x<;>simp only[D2]at h<;>try (cases h;done)
 case d x=>cases h;cases b with|d _ _ a=>exact a
 case e0=>cases h;cases b.e0_d with|d _ _ a=>exact a
theorem ZkY:∀(xs:List AV) (ds:List D) (vs:List Value),CX xs=some ds→xs.length=vs.length→(∀(i:Nat) (x:AV) (v:Value),xs[i]?=some x→vs[i]?=some v→RepA w S H m l x v)→ds.length=vs.length∧∀(i:Nat) (d:D) (v:Value),ds[i]?=some d→vs[i]?=some v→RepD w S d v
 |[],ds,[],h,_,_=>by simp only[CX,Yi]at h;subst h;exact⟨rfl,fun i d v hi=>by simp at hi⟩
 |x::xs,ds,v::vs,h,hl,b=>by
  simp only[CX]at h
  split at h
  ·rename_i d a f g
   cases h
   obtain⟨a1,e⟩:=ZkY xs a vs g (NR hl) (fun i x v k j=>b (i+1) x v (by simpa using k) (by simpa using j))
   refine⟨by simp[a1],fun i d' u hi c=>?_⟩
   cases i with
   |zero=>cases hi;cases c;exact ZoW f (b 0 x _ rfl rfl)
   |succ i=>exact e i d' u (by simpa using hi) (by simpa using c)
  ·cases h
 |[],_,_::_,_,h,_=>by cases h
 |_::_,_,[],_,h,_=>by cases h
theorem ZAo{q:Bool}{x:AV}{ds:List D}{v:Value}(h:JQ q x=some ds)(a:RepA w S H m l x v):VR w S q ds v:=by
 cases q with
 |true=>
  cases x<;>simp only[JQ]at h<;>try (cases h;done)
  case agg xs=>
   cases a with
   |agg _ vs hl b e=>
    obtain⟨a1,c⟩:=ZkY xs ds vs.toList h (by simpa using hl) (fun i x v a k=>e i x v a (by simpa using k))
    exact .inl ⟨rfl,vs,rfl,by simpa using a1.symm,fun j d u f g=>c j d u f (by simpa using g)⟩
 |false=>
  have h:(D2 x).map (fun d=>[d])=some ds:=by cases x<;>exact h
  obtain⟨d,b,rfl⟩:=Hh.1 h
  exact .inr ⟨rfl,d,rfl,ZoW b a⟩
def Sk(l n d:Nat)(e:EK)(x:Nat→AV)(K:St→Prop)(σ:St):Prop:=
 d<n∧K ⟨upd σ.s d (x ((σ.H (l+1,d)).g+1)),updH σ.H (l+1,d) ⟨(σ.H (l+1,d)).g+1,true,e,0,[]⟩⟩
theorem Zmm{t:TypeId}{z:Option Operand}{d:Nat}{q:Bool}(G:o.op=.makeMap t z)(f:o.dst=some d)(r:∃k e,P.underlying t=some (.map k e))(I:∀x,z=some x→∃k i,ev s x=.d (.int k i))
  (A:Sk l n d (.m q []) (fun g=>.mp (l+1,d) g) K ⟨s,H⟩):Ca P l n B o K ⟨s,H⟩:=by
 intro a w E Q
 obtain⟨m,S,D,F,p,C,he⟩:=E.un
 obtain⟨O,N,r⟩:=r
 have c:(execOp a.eval o).run P w=.ok (.value (.map (some w.heap.size))) (w.alloc (.map #[] 0)):=by
  simp only[execOp,G]
  cases z with
  |none=>simp[Instr.makeMap]
  |some x=>
   obtain⟨k,i,J⟩:=I x rfl
   have b:=Cg C x
   rw[J]at b
   have u:a.eval x=.int k i:=by
    generalize a.eval x=v at b
    cases b with|d _ _ f=>cases f;rfl
   simp[Instr.makeMap,run_underlying r,asInt,asIntOf,u]
 obtain⟨L,M⟩:=D.allocO (l+1,d) (Yf _) ⟨(H (l+1,d)).g+1,true,.m q [],0,[]⟩ rfl rfl (DX _) (.map #[] 0) (w':=w.alloc (.map #[] 0)) rfl
  ⟨#[],0,by rw[HB,Yg rfl],⟨rfl,fun i j x y h=>by simp at h,fun i x h=>by simp at h,fun i e x h=>by simp at h⟩⟩ rfl rfl rfl
 refine CP c ?_
 rw[f]
 refine⟨_,A.2,R.step L F p C he M A.1 ?_⟩
 have:=RepA.mpL (w:=w.alloc (.map #[] 0)) (S:=S) (H:=updH H (l+1,d) ⟨(H (l+1,d)).g+1,true,.m q [],0,[]⟩) (m:=Bb m (l+1,d) ⟨w.heap.size,0,0⟩) (l:=l+1) (l+1,d) (Yf _) (by rw[AO])
 rw[AO,A3]at this
 exact this
theorem OC{w:World}{r:Nat}{a:Array MapEntry}{c:Nat}(h:w.heap[r]?=some (.map a c))(b:Obj):(setObj r b).run P w=.ok () (ChangeMaps.setBlock w r b):=by
 simp[setObj,Sem.run,h,ChangeMaps.setBlock]
theorem Fx{w:World}{r:Nat}{d:Obj}(h:w.heap[r]?=some d)(a:Obj)(b:Nat):(ChangeMaps.setBlock w r a).heap[b]?=if b=r then some a else w.heap[b]?:=by
 have c:=GF h
 simp only[ChangeMaps.setBlock,NB]
 grind
theorem Zlt(a b:ByteArray)(h:a=b):(Instr.keyThatStays (.string a) (.string b)).run P w=.ok (.string b) w:=by
 subst h
 have:Instr.sameBits 10000 (.string a) (.string a)=true:=by simp only[Instr.sameBits,iF,Yv]
 simp[Instr.keyThatStays,this]
theorem Zux{t:TypeId}{q:Bool}{z:List D}{k:Ad}{es:List (List D)}{sk:ByteArray}{ds:List D}{v:Value}(I:H4 P t=some (q,z))(u:Ok (l+1) H m S w)(A:k.1≤l+1)(hl:(H k).live=true)(he:(H k).e=.m q es)(E:VR w S q ds v):
  ∃w',(Instr.mapUpdate t (.map (some (m k).b)) (.string sk) v).run P w=.ok () w'∧Ok (l+1) (updH H k {H k with e:=.m q (DB sk ds es) }) m S w'∧Ext (l+1) H m S w (updH H k {H k with e:=.m q (DB sk ds es) }) m S w':=by
 obtain⟨Q,O,C,f,_,_⟩:=OX I
 have B:=u.mp.o k A hl
 rw[he]at B
 obtain⟨ents,d,g,p⟩:=B
 have n:(H k).e.isO=true:=by rw[he];rfl
 obtain⟨K,y⟩:=u.mp.c k A hl n
 have fin:∀(c:Array MapEntry) (a:Nat),MEnt w S q (DB sk ds es) c a→Ok (l+1) (updH H k {H k with e:=.m q (DB sk ds es) }) m S (ChangeMaps.setBlock w (m k).b (.map c a))∧Ext (l+1) H m S w (updH H k {H k with e:=.m q (DB sk ds es) }) m S (ChangeMaps.setBlock w (m k).b (.map c a)):=fun c a hm=>
  u.writeO k A hl n (.m q (DB sk ds es)) rfl (.map c a) (Fx g _) (by simp[ChangeMaps.setBlock])
   ⟨c,a,by rw[Fx g];simp,hm.mono (fun _ h=>h) (fun b J=>by rw[Fx g,Yj];rintro rfl;exact y J)⟩ rfl rfl rfl
 rcases VE (w:=w) (S:=S) (q:=q) (s:=sk) es ents.toList 0 (by simp[p.n]) (fun i e x hi L=>p.e i e x hi (by simpa using L))with⟨a1,r,a3,_⟩|⟨j,x',G,a1,r,a3,a4,a5,F,M,N⟩
 ·refine⟨ChangeMaps.setBlock w (m k).b (.map (ents.push {key:=.string sk,val:=v,born:=d }) (d+1)),?_,?_⟩
  ·simp[Instr.mapUpdate,run_underlying C,MapKept.run_getObj_map g,MapKept.run_checkKey f (show MapKept.IsKey .string (.string sk)from trivial),MapKept.run_findKey f r,OC g]
  ·rw[a3 ds]at fin⊢
   exact fin _ _ (p.push E)
 ·have o:ents[0+j]?=some x':=by simpa using r
  refine⟨ChangeMaps.setBlock w (m k).b (.map (ents.modify (0+j) fun e=>{e with key:=.string sk,val:=v }) d),?_,?_⟩
  ·simp[Instr.mapUpdate,run_underlying C,MapKept.run_getObj_map g,MapKept.run_checkKey f (show MapKept.IsKey .string (.string sk)from trivial),MapKept.run_findKey f a1,o,a3,Zlt,OC g]
   simp only[YJ]at o
   simp[o,a3,Zlt,OC g]
  ·rw[F ds]at fin⊢
   simp only[YJ]at o⊢
   exact fin _ _ (p.mod o E)
theorem O0{k:Ad}{g:Nat}{v:Value}(h:RepA w S H m l (.mp k g) v)(hg:g=(H k).g)(hl:(H k).live=true):k.1≤l∧v=.map (some (m k).b):=by
 cases h with
 |mpL _ b _=>exact⟨b,rfl⟩
 |mpD _ _ _ _ _ a _=>rw[a hg]at hl;cases hl
theorem ZlI{t:TypeId}{p c r:Operand}{k:Ad}{g:Nat}{q:Bool}{z:List D}{es:List (List D)}{sk:ByteArray}{ds:List D}(j:o.op=.mapUpdate t p c r∨o.op=.insert t p c r)(u:o.dst=none)(G:H4 P t=some (q,z))
  (hm:ev s p=.mp k g) (hg:g=(H k).g) (hl:(H k).live=true) (he:(H k).e=.m q es) (I:ev s c=.d (.str sk)) (L:JQ q (ev s r)=some ds)
  (C:K ⟨s,updH H k {H k with e:=.m q (DB sk ds es) }⟩):Ca P l n B o K ⟨s,H⟩:=by
 intro a w F Q
 obtain⟨m,S,E,J,x,i,y⟩:=F.un
 have f:=Cg i p
 rw[hm]at f
 obtain⟨M,N⟩:=O0 f hg hl
 have b:=Cg i c
 rw[I]at b
 have A:a.eval c=.string sk:=by
  generalize a.eval c=v at b
  cases b with|d _ _ u=>cases u;rfl
 obtain⟨w',O,T,U⟩:=Zux (sk:=sk) G E M hl he (ZAo L (Cg i r))
 have h:(execOp a.eval o).run P w=.ok .skip w':=by
  rcases j with j|j<;>simp[execOp,j,N,A,O]
 unfold Oper.wp
 rw[h]
 simp only[Oper.upon,u,Act.put]
 exact⟨_,C,R.keep T J x i y U⟩
theorem ZqN{t t':TypeId}{V G:Operand}{k:Ad}{g:Nat}{q:Bool}{z:List D}{es:List (List D)}{sk:ByteArray}(X:o.op=.call ⟨.builtin .delete,#[V,G],#[t,t']⟩)(N:o.dst=none)(hT:H4 P t=some (q,z))
  (hm:ev s V=.mp k g) (hg:g=(H k).g) (hl:(H k).live=true) (he:(H k).e=.m q es) (hk:ev s G=.d (.str sk))
  (hK:K ⟨s,updH H k {H k with e:=.m q (Eb sk es) }⟩):Ca P l n B o K ⟨s,H⟩:=by
 intro a w hR Q
 obtain⟨m,S,J,hn,O,L,T⟩:=hR.un
 have E:=Cg L V
 rw[hm]at E
 obtain⟨U,Z⟩:=O0 E hg hl
 have y:=Cg L G
 rw[hk]at y
 have C:a.eval G=.string sk:=by
  generalize a.eval G=v at y
  cases y with|d _ _ N=>cases N;rfl
 obtain⟨kt,et,Y,r,_,_⟩:=OX hT
 have F:=J.mp.o k U hl
 rw[he]at F
 obtain⟨ents,p,u,I⟩:=F
 have A:(H k).e.isO=true:=by rw[he];rfl
 obtain⟨hc1,M⟩:=J.mp.c k U hl A
 have fin:∀(f:Array MapEntry) (c:Nat),MEnt w S q (Eb sk es) f c→Ok (l+1) (updH H k {H k with e:=.m q (Eb sk es) }) m S (ChangeMaps.setBlock w (m k).b (.map f c))∧Ext (l+1) H m S w (updH H k {H k with e:=.m q (Eb sk es) }) m S (ChangeMaps.setBlock w (m k).b (.map f c)):=fun f c hm=>
  J.writeO k U hl A (.m q (Eb sk es)) rfl (.map f c) (Fx u _) (by simp[ChangeMaps.setBlock])
   ⟨f,c,by rw[Fx u];simp,hm.mono (fun _ h=>h) (fun b hb=>by rw[Fx u,Yj];rintro rfl;exact M hb)⟩ rfl rfl rfl
 have key:∃w',(execOp a.eval o).run P w=.ok (.value (.tuple #[])) w'∧Ok (l+1) (updH H k {H k with e:=.m q (Eb sk es) }) m S w'∧Ext (l+1) H m S w (updH H k {H k with e:=.m q (Eb sk es) }) m S w':=by
  rcases VE (w:=w) (S:=S) (q:=q) (s:=sk) es ents.toList 0 (by simp[I.n]) (fun i e x hi hx=>I.e i e x hi (by simpa using hx))with⟨a1,W,_,a4⟩|⟨j,x',ds',a1,W,a3,a4,a5,a6,a7,a8⟩
  ·refine⟨ChangeMaps.setBlock w (m k).b (.map ents p),?_,?_⟩
   ·simp[execOp,X,resolve,invoke,Go.builtin,Z,C,Builtin.delete_,run_underlying Y,MapKept.run_getObj_map u,MapKept.run_checkKey r (show MapKept.IsKey .string (.string sk)from trivial),MapKept.run_findKey r W,OC u]
   grind
  ·have hj:j<ents.size:=by
    grind
   refine⟨ChangeMaps.setBlock w (m k).b (.map (ents.eraseIdxIfInBounds (0+j)) p),?_,?_⟩
   ·simp[execOp,X,resolve,invoke,Go.builtin,Z,C,Builtin.delete_,run_underlying Y,MapKept.run_getObj_map u,MapKept.run_checkKey r (show MapKept.IsKey .string (.string sk)from trivial),MapKept.run_findKey r a1,OC u]
   ·rw[a7]at fin⊢
    simp only[YJ]
    exact fin _ _ (I.del hj)
 obtain⟨w',r1,r2,r3⟩:=key
 refine CP r1 ?_
 rw[N]
 exact⟨_,hK,R.keep r2 hn O L T r3⟩
theorem Zxa{t:TypeId}{x:Operand}{d:Nat}{q:Bool}{es:List (List D)}(I:o.op=.range t x)(j:o.dst=some d)(y:∃k e,P.underlying t=some (.map k e))(T:ev s x=.d (.map q es))
  (E:Sk l n d (.i q es none) (fun g=>.ptr (l+1,d) g 0) K ⟨s,H⟩):Ca P l n B o K ⟨s,H⟩:=by
 intro a w M Q
 obtain⟨m,S,F,O,A,G,he⟩:=M.un
 obtain⟨X,W,y⟩:=y
 have f:=Cg G x
 rw[T]at f
 have key:∃i,(execOp a.eval o).run P w=.ok (.value (.pointer (some ⟨w.heap.size,0,none⟩))) (w.alloc i)∧ZYm (w.alloc i) S w.heap.size q es none:=by
  generalize J:a.eval x=v at f
  cases f with
  |d _ _ j=>
   cases v with
   |map r=>
    cases r with
    |none=>
     cases j
     refine⟨.mapIter none 0 #[] 0,?_,.inl ⟨rfl,rfl,0,#[],0,by rw[HB,Yg rfl]⟩⟩
     simp[execOp,I,J,Instr.range,run_underlying y]
    |some r=>
     obtain⟨hs,ents,c,z,C⟩:=j.toM
     refine⟨.mapIter (some r) c #[] c,?_,.inr ⟨r,ents,c,es,#[],by rw[HB,Yg rfl],hs,?_,?_,?_,fun e h=>by cases h⟩⟩
     ·simp[execOp,I,J,Instr.range,run_underlying y,MapKept.run_getObj_map z]
     ·rw[HB,Yj (by have:=GF z;omega)];exact z
     ·exact C.mono (fun _ h=>h) (fun b N=>by rw[HB,Yj (by have:=F.sub b N;omega)])
     ·have:((ents.toList.zip es).filter (fun p=>!(#[]:Array Nat).contains p.1.born))=ents.toList.zip es:=by
       rw[List.filter_eq_self];intro p _;simp
      rw[this,List.map_snd_zip]
      simp[C.n]
   |_=>cases j
 obtain⟨i,u,L⟩:=key
 obtain⟨U,V⟩:=F.allocO (l+1,d) (Yf _) ⟨(H (l+1,d)).g+1,true,.i q es none,0,[]⟩ rfl rfl (DX _) i (w':=w.alloc i) rfl L rfl rfl rfl
 refine CP u ?_
 rw[j]
 refine⟨_,E.2,R.step U O A G he V E.1 ?_⟩
 have:=RepA.ptrL (w:=w.alloc i) (S:=S) (H:=updH H (l+1,d) ⟨(H (l+1,d)).g+1,true,.i q es none,0,[]⟩) (m:=Bb m (l+1,d) ⟨w.heap.size,0,0⟩) (l:=l+1) (l+1,d) 0 (Yf _) (by rw[AO])
 rw[AO,A3]at this
 exact this
def nF(q:Bool):List D→AV
 |.str k::ds=>.tup [.d (.bool true),.d (.str k),G8 q ds]
 |_=>.top
theorem gt{α β:Type}(f:α→β):∀(L:List α) (i:Nat),(L.eraseIdx i).map f=(L.map f).eraseIdx i
 |[],i=>by simp
 |x::L,0=>rfl
 |x::L,i+1=>by simp only[XK,YS,gt f L i]
theorem ma{α β:Type}{xs:List α}{ys:List β}{i:Nat}{p:α×β}(h:(xs.zip ys)[i]?=some p):xs[i]?=some p.1∧ys[i]?=some p.2:=by
 grind
theorem ZAH{x:Operand}{d:Nat}{k:Ad}{g:Nat}{q:Bool}{rest:List (List D)}{cur:Option (List D)}(ho:o.op=.next x false)(hd:o.dst=some d)(f:ev s x=.ptr k g 0)(hg:g=(H k).g)(hl:(H k).live=true)(he:(H k).e=.i q rest cur)(G:d<n)
  (h0:rest=[]→K ⟨upd s d (.tup [.d (.bool false)]),H⟩)
  (h1:∀(i:Nat) (e:List D),rest[i]?=some e→K ⟨upd s d (nF q e),updH H k {H k with e:=.i q (rest.eraseIdx i) (some e) }⟩):Ca P l n B o K ⟨s,H⟩:=by
 intro a w hR Q
 obtain⟨m,S,X,hn,F,hS,I⟩:=hR.un
 have U:=Cg hS x
 rw[f]at U
 have M:k.1≤l+1∧a.eval x=.pointer (some ⟨(m k).b,(m k).o,none⟩):=by
  generalize a.eval x=v at U
  cases U with
  |ptrL _ _ M _=>exact⟨M,by simp⟩
  |ptrD _ _ _ _ _ _ hd _=>rw[hd hg]at hl;cases hl
 obtain⟨M,A⟩:=M
 have W:(H k).e.isO=true:=by rw[he];rfl
 obtain⟨⟨hc0,hc1⟩,Z⟩:=X.mp.c k M hl W
 rw[hc1]at A
 have hob:=X.mp.o k M hl
 rw[he]at hob
 rcases hob with⟨e1,e2,u1,u2,u3,e3⟩|⟨r,ents,c,es,seen,b1,b2,b3,V,b5,b6⟩
 ·refine CP (v:=.tuple #[.bool false]) (w':=w) ?_ ?_
  ·simp[execOp,ho,A,Instr.next,getObj,Sem.run,e3]
  ·rw[hd]
   exact⟨_,h0 e1,R.step X hn F hS I (Ext.refl _ _ _ _ _) G (.tup _ _ rfl (fun i x v f T=>by
    match i with
    |0=>cases f;cases T;exact .d _ _ (.bool _)
    |i+1=>simp at f))⟩
 ·have E:∀(i j:Nat) (x y:MapEntry×List D),(ents.toList.zip es)[i]?=some x→(ents.toList.zip es)[j]?=some y→x.1.born=y.1.born→i=j:=fun i j x y f hy e=>
   V.born i j x.1 y.1 (by simpa using(ma f).1) (by simpa using(ma hy).1) e
  have N:∀e:MapEntry,e∈(leftOf ents seen).toList→∃(i:Nat) (d:List D),((ents.toList.zip es).filter (fun p=>!seen.contains p.1.born))[i]?=some (e,d):=fun e hm=>by
   have hm:e∈ents.toList∧(!seen.contains e.born)=true:=by simpa[leftOf]using hm
   obtain⟨j,hj⟩:=YD.1 hm.1
   have hlt:j<es.length:=by rw[←V.n];rw[Yr]at hj;exact GF hj
   have hz:(e,es[j])∈ents.toList.zip es:=YD.2 ⟨j,List.getElem?_zip_eq_some.2 ⟨hj,Ya hlt⟩⟩
   obtain⟨i,hi⟩:=YD.1 ((Y6 (p:=fun p:MapEntry×List D=>!seen.contains p.1.born)).2 ⟨hz,hm.2⟩)
   grind
  rcases run_next_at (P:=P) w o.type (m k).b r c c seen ents c b1 b3 (fun x f=>by
    obtain⟨i,hi⟩:=YD.1 f
    exact V.clk i x (by simpa using hi)) (Yf _)with⟨c1,c2⟩|⟨e,c1,C,c2,c3⟩
  ·have O:rest=[]:=by
    rw[b5,Xy,QG]
    intro p hp hb
    obtain⟨i,hi⟩:=YD.1 hp
    have:p.1∈(leftOf ents seen).toList:=by
     simp only[leftOf,Array.toList_filter,Y6]
     grind
    grind
   refine CP (v:=.tuple #[.bool false]) (w':=w) ?_ ?_
   ·simp[execOp,ho,A,c2]
   ·rw[hd]
    exact⟨_,h0 O,R.step X hn F hS I (Ext.refl _ _ _ _ _) G (.tup _ _ rfl (fun i x v f T=>by
     match i with
     |0=>cases f;cases T;exact .d _ _ (.bool _)
     |i+1=>simp at f))⟩
  ·obtain⟨i,d',hi⟩:=N e c1
   have hzip:=Y6.1 (Yk hi)
   obtain⟨j,hj⟩:=YD.1 hzip.1
   obtain⟨J,L⟩:=ma hj
   simp only[Yr]at J L
   obtain⟨sk,ds,q1,q2,q3⟩:=V.e j _ _ L J
   subst q1
   have hri:rest[i]?=some (.str sk::ds):=by rw[b5,YL,hi];rfl
   have hre:rest.eraseIdx i=((ents.toList.zip es).filter (fun p=>!(seen.push e.born).contains p.1.born)).map (·.2):=by
    rw[b5]
    have:=fS (fun p:MapEntry×List D=>p.1.born) (fun p=>!seen.contains p.1.born) (ents.toList.zip es) E i _ hi
    rw[←gt,←this]
    grind
   have t:C.heap=w.heap∧C.os=w.os∧C.tape=w.tape∧C.output=w.output:=by rcases c2 with rfl|rfl<;>exact⟨rfl,rfl,rfl,rfl⟩
   have Y:=X.drew (w':=C) t.1 t.2.1 t.2.2.1 t.2.2.2
   have z:C.heap[(m k).b]?=some (.mapIter (some r) c seen c):=by rw[t.1];exact b1
   obtain⟨k1,k2⟩:=Y.1.writeO k M hl W (.i q (rest.eraseIdx i) (some (.str sk::ds))) rfl (.mapIter (some r) c (seen.push e.born) c) (w':=ChangeMaps.setBlock C (m k).b (.mapIter (some r) c (seen.push e.born) c))
    (Fx z _) (by simp[ChangeMaps.setBlock]) (.inr ⟨r,ents,c,es,seen.push e.born,by rw[Fx z];simp,b2,by rw[Fx z,Yj (by rintro rfl;exact Z b2),t.1];exact b3,
     V.mono (fun _ h=>h) (fun b hb=>by rw[Fx z,Yj (by rintro rfl;exact Z hb),t.1]),hre,fun e' he'=>by cases he';exact⟨j,e,L,J,by simp⟩⟩) rfl rfl rfl
   have u:=Y.2.trans k2
   refine CP (v:=.tuple #[.bool true,e.key,e.val]) (w':=ChangeMaps.setBlock C (m k).b (.mapIter (some r) c (seen.push e.born) c)) ?_ ?_
   ·simp[execOp,ho,A,c3]
   ·rw[hd]
    refine⟨_,h1 i _ hri,R.step k1 hn F hS I u G ?_⟩
    simp only[nF]
    refine .tup _ _ rfl (fun i x v f T=>?_)
    match i with
    |0=>cases f;cases T;exact .d _ _ (.bool _)
    |1=>cases f;cases T;rw[q2];exact .d _ _ (.str _)
    |2=>cases f;cases T;exact Ur (q3.mono u.s u.blk)
    |i+3=>simp at f
def Qd(z:ByteArray)(p:Nat):Int:=((Utf8.decode z p).1:Nat)
def Gu(z:ByteArray)(p:Nat):Nat:=(Utf8.decode z p).2
theorem ZqM{t:TypeId}{x:Operand}{d:Nat}{z:ByteArray}(q:o.op=.range t x)(e:o.dst=some d)(r:P.underlying t=some .string)(y:ev s x=.d (.str z))
  (h:Sk l n d (.s z 0) (fun g=>.ptr (l+1,d) g 0) K ⟨s,H⟩):Ca P l n B o K ⟨s,H⟩:=by
 intro a w k Q
 obtain⟨m,S,j,p,f,i,he⟩:=k.un
 have b:=Cg i x
 rw[y]at b
 have c:(execOp a.eval o).run P w=.ok (.value (.pointer (some ⟨w.heap.size,0,none⟩))) (w.alloc (.stringIter z 0)):=by
  generalize u:a.eval x=v at b
  cases b with
  |d _ _ e=>
   cases e
   simp[execOp,q,u,Instr.range,run_underlying r]
 obtain⟨A,C⟩:=j.allocO (l+1,d) (Yf _) ⟨(H (l+1,d)).g+1,true,.s z 0,0,[]⟩ rfl rfl (DX _) (.stringIter z 0) (w':=w.alloc (.stringIter z 0)) rfl (by show(w.alloc _).heap[w.heap.size]?=_;rw[HB,Yg rfl]) rfl rfl rfl
 refine CP c ?_
 rw[e]
 refine⟨_,h.2,R.step A p f i he C h.1 ?_⟩
 have:=RepA.ptrL (w:=w.alloc (.stringIter z 0)) (S:=S) (H:=updH H (l+1,d) ⟨(H (l+1,d)).g+1,true,.s z 0,0,[]⟩) (m:=Bb m (l+1,d) ⟨w.heap.size,0,0⟩) (l:=l+1) (l+1,d) 0 (Yf _) (by rw[AO])
 rw[AO,A3]at this
 exact this
theorem Zr4{x:Operand}{d:Nat}{k:Ad}{g:Nat}{z:ByteArray}{p:Nat}(I:o.op=.next x true)(C:o.dst=some d)(c:ev s x=.ptr k g 0)(hg:g=(H k).g)(hl:(H k).live=true)(he:(H k).e=.s z p)(t:d<n)
  (J:¬p<z.size→K ⟨upd s d (.tup [.d (.bool false)]),H⟩)
  (L:p<z.size→K ⟨upd s d (.tup [.d (.bool true),.d (.int .i64 (p:Int)),.d (.int .i32 (Qd z p))]),updH H k {H k with e:=.s z (p+Gu z p) }⟩):Ca P l n B o K ⟨s,H⟩:=by
 intro a w M Q
 obtain⟨m,S,A,G,r,E,u⟩:=M.un
 have j:=Cg E x
 rw[c]at j
 have h:k.1≤l+1∧a.eval x=.pointer (some ⟨(m k).b,(m k).o,none⟩):=by
  generalize a.eval x=v at j
  cases j with
  |ptrL _ _ h _=>exact⟨h,by simp⟩
  |ptrD _ _ _ _ _ _ C _=>rw[C hg]at hl;cases hl
 obtain⟨h,f⟩:=h
 have q:(H k).e.isO=true:=by rw[he];rfl
 obtain⟨⟨N,F⟩,O⟩:=A.mp.c k h hl q
 rw[F]at f
 have b:=A.mp.o k h hl
 rw[he]at b
 have b:w.heap[(m k).b]?=some (.stringIter z p):=b
 by_cases D:p<z.size
 ·obtain⟨T,U⟩:=A.writeO k h hl q (.s z (p+Gu z p)) rfl (.stringIter z (p+Gu z p)) (w':=ChangeMaps.setBlock w (m k).b (.stringIter z (p+Gu z p))) (Fx b _) (by simp[ChangeMaps.setBlock]) (by show(ChangeMaps.setBlock _ _ _).heap[_]?=_;rw[Fx b,Yg rfl]) rfl rfl rfl
  refine CP (v:=.tuple #[.bool true,goInt p,.int .i32 (Qd z p)]) (w':=ChangeMaps.setBlock w (m k).b (.stringIter z (p+Gu z p))) ?_ ?_
  ·simp[execOp,I,f,Instr.next,getObj,setObj,Sem.run,b,D,ChangeMaps.setBlock,Qd,Gu]
  ·rw[C]
   refine⟨_,L D,R.step T G r E u U t ?_⟩
   refine .tup _ _ rfl (fun i x v c y=>?_)
   match i with
   |0=>cases c;cases y;exact .d _ _ (.bool _)
   |1=>cases c;cases y;exact .d _ _ (.int _ _)
   |2=>cases c;cases y;exact .d _ _ (.int _ _)
   |i+3=>simp at c
 ·refine CP (v:=.tuple #[.bool false]) (w':=w) ?_ ?_
  ·simp[execOp,I,f,Instr.next,getObj,Sem.run,b,D]
  ·rw[C]
   exact⟨_,J D,R.step A G r E u (Ext.refl _ _ _ _ _) t (.tup _ _ rfl (fun i x v c y=>by
    match i with
    |0=>cases c;cases y;exact .d _ _ (.bool _)
    |i+1=>simp at c))⟩
theorem ZsU{x:Operand}{d:Nat}{k:Ad}{g:Nat}{q:Bool}{rest:List (List D)}{sk:ByteArray}{ds:List D}(ho:o.op=.entry x)(L:o.dst=some d)(E:ev s x=.ptr k g 0)(hg:g=(H k).g)(hl:(H k).live=true)(he:(H k).e=.i q rest (some (.str sk::ds)))(N:d<n)
  (hK:K ⟨upd s d (.tup [.d (.str sk),G8 q ds]),updH H k {H k with e:=.i q rest none }⟩):Ca P l n B o K ⟨s,H⟩:=by
 intro a w hR Q
 obtain⟨m,S,I,hn,M,X,T⟩:=hR.un
 have t:=Cg X x
 rw[E]at t
 have h:k.1≤l+1∧a.eval x=.pointer (some ⟨(m k).b,(m k).o,none⟩):=by
  generalize a.eval x=v at t
  cases t with
  |ptrL _ _ h _=>exact⟨h,by simp⟩
  |ptrD _ _ _ _ _ _ L _=>rw[L hg]at hl;cases hl
 obtain⟨h,z⟩:=h
 have u:(H k).e.isO=true:=by rw[he];rfl
 obtain⟨⟨hc0,J⟩,hc2⟩:=I.mp.c k h hl u
 rw[J]at z
 have A:=I.mp.o k h hl
 rw[he]at A
 rcases A with⟨e1,e2,_⟩|⟨r,ents,c,es,seen,V,b2,W,F,b5,b6⟩
 ·cases e2
 ·obtain⟨i,x',c1,G,c3⟩:=b6 _ rfl
  obtain⟨sk',ds',q1,q2,q3⟩:=F.e i _ _ c1 G
  cases q1
  have f:ents.find? (fun y=>y.born==x'.born)=some x':=by
   rw[←Array.find?_toList]
   refine find_born x' ents.toList ?_ (by rw[←Yr]at G;exact Yk G)
   rw[List.nodup_iff_pairwise_ne,XI]
   intro i j hi Y hij e
   rw[YC]at hi Y
   have Z:=Ya hi
   have C:=Ya Y
   rw[Yr]at Z C
   have:=F.born i j _ _ Z C (by simpa using e)
   omega
  have p:∀b,w.heap[b]?=if b=(m k).b then some (.mapIter (some r) c seen c)else w.heap[b]?:=fun b=>by
   grind
  obtain⟨k1,U⟩:=I.writeO k h hl u (.i q rest none) rfl (.mapIter (some r) c seen c) (w':=w) p rfl (.inr ⟨r,ents,c,es,seen,V,b2,W,F,b5,fun e' O=>by cases O⟩) rfl rfl rfl
  refine CP (v:=.tuple #[x'.key,x'.val]) (w':=w) ?_ ?_
  ·simp[execOp,ho,z,Instr.entry,getObj,Sem.run,V,W,c3,f]
  ·rw[L]
   refine⟨_,hK,R.step k1 hn M X T U N (.tup _ _ rfl (fun i x v E C=>?_))⟩
   match i with
   |0=>cases E;cases C;rw[q2];exact .d _ _ (.str _)
   |1=>cases E;cases C;exact Ur (q3.mono U.s U.blk)
   |i+2=>simp at E
end
end Go.Eng
namespace Go.Eng
set_option linter.all false
open Go Go.RowKit
def ZYU(x:EK)(e:Nat):Bool:=
 match x with
 |.t e'=>Nat.beq e' e
 |_=>false
theorem ZLz{x:EK}{e:Nat}(h:ZYU x e=true):x=.t e:=by
 cases x with
 |t e'=>rw[Yb (show Nat.beq e' e=true from h)]
 |_=>cases h
def BL(a b:Ad):Bool:=Nat.beq a.1 b.1&&Nat.beq a.2 b.2
def AV.onef:AV→Bool
 |.top|.agg _|.tup _|.fn _ _ _=>false
 |_=>true
def Em(sz:Nat)(C:List AV)(y:AV)(c:Nat)(news:List AV):Prop:=
 news.all AV.onef=true∧match y with
 |.e0=>c=0∧news=[]
 |.d (.list es)=>(∀e∈es,e.length=sz)∧c=es.length∧news=es.flatten.map .d
 |.ref _ _ off n=>c=n∧(off+n)*sz≤C.length∧news=(C.drop (off*sz)).take (n*sz)
 |_=>False
def Ix(C:List AV)(off a c sz byt:Nat)(news d:List AV)(b:Nat):Prop:=(off+a)*sz=C.length∧C.drop (off*sz)++news=d∧a+c=b∧b*byt≤140737488355328
def N5(c byt:Nat):Prop:=c*byt≤140737488355328
def Lb(r:Ren)(k:Ad):Prop:=k.1=0∧r.no (r.κ k)
def FO(r:Ren)(k:Ad)(vs:List AV):Prop:=(Aq r vs).all (AV.low (r.κ k).1)=true
def Hb(r:Ren)(k:Ad)(vs:List AV)(A:Prop):Prop:=
 match Nat.beq k.1 1 with
 |true=>A
 |false=>Lb r k∧FO r k vs∧A
def K9(C:List AV)(off:Nat)(vs a:List AV):Prop:=off+vs.length≤C.length∧C.take off++vs++C.drop (off+vs.length)=a
def IF(n d:Nat)(e:TypeId)(sz:Nat)(cells:List AV)(x:Nat→AV)(K:St→AT→Prop)(τ:St)(a:AT):Prop:=
 match Nat.ble (d+1) n with
 |true=>K ⟨upd τ.s d (x ((τ.H (1,d)).g+1)),updH τ.H (1,d) ⟨(τ.H (1,d)).g+1,true,e,sz,cells⟩⟩ a
 |false=>False
def cellsOf(H:Hp):AV→List AV
 |.ref k g _ _=>match BO H k g with|true=>(H k).cells|false=>[]
 |_=>[]
def WD(H:Hp)(sz:Nat):AV→Bool
 |.ref k g _ _=>BO H k g&&Nat.beq (H k).sz sz
 |_=>true
def dO(T:Nat→Option TI)(r:Ren)(n d:Nat)(t:TypeId)(x y:AV)(a:AT)(K:St→AT→Prop)(τ:St):Prop:=
 match T t with
 |some i=>match i.elm with
  |some (e,sz)=>match T e,Nat.ble 1 sz,WD τ.H sz y with
   |some j,true,true=>(match j.byt,j.zer,x,a with
    |some byt,some _,.e0,.nat c (.cs news b)=>Em sz (cellsOf τ.H y) y c news∧N5 c byt∧IF n d e sz news (fun g=>.ref (1,d) g 0 c) K τ b
    |some byt,some _,.ref k q off l,.nat c (.cs news (.cs f (.nat h b)))=>(match BO τ.H k q,Nat.beq (τ.H k).sz sz,ZYU (τ.H k).e e,Nat.ble (d+1) n with
     |true,true,true,true=>Em sz (cellsOf τ.H y) y c news∧Ix (τ.H k).cells off l c sz byt news f h∧Hb r k news (K ⟨upd τ.s d (.ref k (q+1) 0 h),updH τ.H k ⟨q+1,true,e,sz,f⟩⟩ b)
     |_,_,_,_=>False)
    |_,_,_,_=>False)
   |_,_,_=>False
  |none=>False
 |none=>False
def Pi(r:Ren)(n:Nat)(i:TI)(x:AV)(vs:Option (List AV))(a:AT)(K:St→AT→Prop)(τ:St):Prop:=
 match x,vs with
 |.ptr k q off,some vs=>match BO τ.H k q,Nat.beq vs.length i.siz,Nat.ble 1 vs.length with
  |true,true,true=>(match a with
   |.go b=>(match Nat.ble (off+vs.length) (τ.H k).cells.length with
    |true=>Hb r k vs (K ⟨τ.s,updH τ.H k ⟨q,true,(τ.H k).e,(τ.H k).sz,(τ.H k).cells.take off++vs++(τ.H k).cells.drop (off+vs.length)⟩⟩ b)
    |false=>False)
   |.cs c b=>K9 (τ.H k).cells off vs c∧Hb r k vs (K ⟨τ.s,updH τ.H k ⟨q,true,(τ.H k).e,(τ.H k).sz,c⟩⟩ b)
   |_=>False)
  |_,_,_=>False
 |_,_=>False
def oL(c a:Int)(byt m:Nat)(z C:List AV):Prop:=c=(m:Int)∧c≤a∧(byt:Int)*a≤140737488355328∧(List.replicate m z).flatten=C
def Jx(P:Program)(T:Nat→Option TI)(l n:Nat)(r:Ren)(o:Oper)(a:AT)(K:St→AT→Prop)(τ:St):Prop:=
 match o.op with
 |.alloc t=>match o.dst,T t with
  |some d,some i=>(match i.zer with|some (z::f)=>IF n d t (f.length+1) (z::f) (fun g=>.ptr (1,d) g 0) K τ a|_=>False)
  |_,_=>False
 |.box t x=>match o.dst,C8 (ev τ.s x),IR (ev τ.s x)with
  |some d,some (z::f),true=>IF n d t (f.length+1) (z::f) (fun g=>.ptr (1,d) g 0) K τ a
  |_,_,_=>False
 |.store t p x=>match o.dst,T t,IR (ev τ.s x)with
  |none,some i,true=>Pi r n i (ev τ.s p) (C8 (ev τ.s x)) a K τ
  |_,_,_=>False
 |.buildSlice t len parts=>match o.dst,T t with
  |some d,some i=>(match i.elm with
   |some (e,sz)=>(match Nat.ble 1 sz,len with
    |true,0=>(match parts.toList with|[]=>Fl n d K τ .e0 a|_=>False)
    |true,len+1=>(match T e,Nat.ble ((len+1)*sz) 16777216 with
     |some j,true=>(match j.zer with
      |some z=>(match Nat.beq z.length sz,FZ sz 0 (parts.toList.map fun p=>(p.1,ev τ.s p.2))with
       |true,some es=>(match Nat.beq es.length (len+1)with|true=>Fl n d K τ (.d (.list es)) a|false=>False)
       |_,_=>False)
      |none=>False)
     |_,_=>False)
    |_,_=>False)
   |none=>False)
  |_,_=>False
 |.makeSlice t x y=>match o.dst,T t,ev τ.s x,ev τ.s y,a with
  |some d,some i,.d (.int _ c),.d (.int _ h),.nat m (.cs C b)=>(match i.elm with
   |some (e,sz)=>(match T e,Nat.ble 1 sz with
    |some j,true=>(match j.zer,j.byt with
     |some z,some byt=>(match Nat.beq z.length sz with
      |true=>oL c h byt m z C∧IF n d e sz C (fun g=>.ref (1,d) g 0 m) K τ b
      |false=>False)
     |_,_=>False)
    |_,_=>False)
   |none=>False)
  |_,_,_,_,_=>False
 |.call c=>match c.callee with
  |.builtin .append=>(match o.dst,c.args.toList,c.argTypes.toList with
   |some d,[x,y],[t,k]=>(match Nat.beq t k with|true=>dO T r n d t (ev τ.s x) (ev τ.s y) a K τ|false=>False)
   |_,_,_=>False)
  |_=>(match o.dst with|some d=>pV P T l r τ o.op none a (Fl n d K τ)|none=>False)
 |_=>match o.dst with|some d=>pV P T l r τ o.op none a (Fl n d K τ)|none=>False
def R7(n:Nat)(K:St→AT→Prop)(s:Nat→AV)(H:Hp)(v:AV)(b:AT):Option Nat→Prop
 |some d=>match Nat.ble (d+1) n with|true=>K ⟨upd s d v,H⟩ b|false=>False
 |none=>K ⟨s,H⟩ b
def xz(T:Nat→Option TI)(r:Ren)(n:Nat)(d:Option Nat)(t l:Nat)(x y:AV)(a:AT)(K:St→AT→Prop)(τ:St):Prop:=
 match T t,T l with
 |some i,some h=>match i.elm,h.elm with
  |some (e,sz),some (e',f)=>match Nat.beq e e',Nat.beq sz f,T e,Nat.ble 1 sz,WD τ.H sz y with
   |true,true,some j,true,true=>(match j.zer,x,a with
    |some _,.ref k q off cn,.nat c (.cs news (.cs g b))=>(match BO τ.H k q,Nat.beq (τ.H k).sz sz with
     |true,true=>Em sz (cellsOf τ.H y) y c news∧c≤cn∧K9 (τ.H k).cells (off*sz) news g∧Hb r k news (R7 n K τ.s (updH τ.H k ⟨q,true,(τ.H k).e,(τ.H k).sz,g⟩) (.d (.int .i64 c)) b d)
     |_,_=>False)
    |_,_,_=>False)
   |_,_,_,_,_=>False
  |_,_=>False
 |_,_=>False
def cI(C:List AV)(off cn sz:Nat)(z a:List AV):Prop:=(off+cn)*sz≤C.length∧C.take (off*sz)++(List.replicate cn z).flatten++C.drop ((off+cn)*sz)=a
def te(T:Nat→Option TI)(r:Ren)(t:Nat)(x:AV)(a:AT)(K:St→AT→Prop)(τ:St):Prop:=
 match T t with
 |some i=>match i.elm with
  |some (e,sz)=>match T e,Nat.ble 1 sz with
   |some j,true=>(match j.zer,x,a with
    |some z,.ref k q off cn,.cs c b=>(match BO τ.H k q,Nat.beq (τ.H k).sz sz,Nat.beq z.length sz with
     |true,true,true=>cI (τ.H k).cells off cn sz z c∧Hb r k z (K ⟨τ.s,updH τ.H k ⟨q,true,(τ.H k).e,(τ.H k).sz,c⟩⟩ b)
     |_,_,_=>False)
    |_,_,_=>False)
   |_,_=>False
  |none=>False
 |none=>False
def IN(P:Program)(T:Nat→Option TI)(l n:Nat)(r:Ren)(o:Oper)(a:AT)(K:St→AT→Prop)(τ:St):Prop:=
 match o.op with
 |.call c=>(match c.callee with
  |.builtin .copy=>(match c.args.toList,c.argTypes.toList with|[x,y],[t,b]=>xz T r n o.dst t b (ev τ.s x) (ev τ.s y) a K τ|_,_=>False)
  |.builtin .clear=>(match c.args.toList,c.argTypes.toList,o.dst with|[x],[t],none=>te T r t (ev τ.s x) a K τ|_,_,_=>False)
  |_=>Jx P T l n r o a K τ)
 |_=>Jx P T l n r o a K τ
def pm(T:Nat→Option TI)(n:Nat)(b:Option Nat)(t len:Nat)(vs:List (Nat×AV))(a:AT)(K:St→AT→Prop)(τ:St):Prop:=
 match b,T t with
 |some d,some i=>(match i.elm with
  |some (e,sz)=>(match T e,Nat.ble 1 sz,Nat.ble ((len+1)*sz) 16777216 with
   |some j,true,true=>(match j.zer with
    |some z=>(match Nat.beq z.length sz,CI (fun i=>some (i*sz,sz)) (List.replicate (len+1) z).flatten vs,vs.all (fun p=>IR p.2)with
     |true,some cs,true=>(match z.all AV.flat with|true=>IF n d e sz cs (fun g=>.ref (1,d) g 0 (len+1)) K τ a|false=>False)
     |_,_,_=>False)
    |none=>False)
   |_,_,_=>False)
  |none=>False)
 |_,_=>False
def IA(P:Program)(T:Nat→Option TI)(l n:Nat)(r:Ren)(o:Oper)(a:AT)(K:St→AT→Prop)(τ:St):Prop:=
 match o.op with
 |.buildSlice t (len+1) parts=>(match a with
  |.go b=>pm T n o.dst t len (parts.toList.map fun p=>(p.1,ev τ.s p.2)) b K τ
  |.sep b=>IN P T l n r o b K τ
  |a=>IN P T l n r o a K τ)
 |_=>IN P T l n r o a K τ
def P2(n d:Nat)(e:EK)(x:Nat→AV)(K:St→AT→Prop)(τ:St)(a:AT):Prop:=
 match Nat.ble (d+1) n with
 |true=>K ⟨upd τ.s d (x ((τ.H (1,d)).g+1)),updH τ.H (1,d) ⟨(τ.H (1,d)).g+1,true,e,0,[]⟩⟩ a
 |false=>False
def ZXc(s:Nat→AV):Option Operand→Bool
 |none=>true
 |some x=>match ev s x with|.d (.int _ _)=>true|_=>false
def ZXs(s:ByteArray)(ds:List D)(es a:List (List D)):Prop:=DB s ds es=a
def ZZ7(s:ByteArray)(es a:List (List D)):Prop:=Eb s es=a
def ZXw(rest:List (List D))(i:Nat)(e:List D)(es:List (List D)):Prop:=rest[i]?=some e∧rest.eraseIdx i=es
def Nj(T:Nat→Option TI)(r:Ren)(d:Option Nat)(t:Nat)(x y z:AV)(a:AT)(K:St→AT→Prop)(τ:St):Prop:=
 match d,T t,x,y with
 |none,some i,.mp k g,.d (.str s)=>(match i.mp,BO τ.H k g,(τ.H k).e with
  |some (q,_),true,.m e es=>(match Nc q e,JQ q z,a with
   |true,some ds,.ents c b=>ZXs s ds es c∧Hb r k [] (K ⟨τ.s,updH τ.H k ⟨g,true,.m q c,(τ.H k).sz,(τ.H k).cells⟩⟩ b)
   |_,_,_=>False)
  |_,_,_=>False)
 |_,_,_,_=>False
def pMd(T:Nat→Option TI)(r:Ren)(d:Option Nat)(t:Nat)(x y:AV)(a:AT)(K:St→AT→Prop)(τ:St):Prop:=
 match d,T t,x,y with
 |none,some i,.mp k g,.d (.str s)=>(match i.mp,BO τ.H k g,(τ.H k).e with
  |some (q,_),true,.m e es=>(match Nc q e,a with
   |true,.ents c b=>ZZ7 s es c∧Hb r k [] (K ⟨τ.s,updH τ.H k ⟨g,true,.m q c,(τ.H k).sz,(τ.H k).cells⟩⟩ b)
   |_,_=>False)
  |_,_,_=>False)
 |_,_,_,_=>False
def pNx(n d:Nat)(k:Ad)(g:Nat)(q:Bool)(rest:List (List D))(a:AT)(K:St→AT→Prop)(τ:St):Prop:=
 match Nat.ble (d+1) n,a with
 |true,.all a0 f=>(rest=[]→K ⟨upd τ.s d (.tup [.d (.bool false)]),τ.H⟩ a0)∧∀i,i<rest.length→(match f i with
  |.ds (.str s::ds) (.ents es b)=>ZXw rest i (.str s::ds) es∧K ⟨upd τ.s d (.tup [.d (.bool true),.d (.str s),G8 q ds]),updH τ.H k ⟨g,true,.i q es (some (.str s::ds)),(τ.H k).sz,(τ.H k).cells⟩⟩ b
  |_=>False)
 |_,_=>False
def pNs(n d:Nat)(k:Ad)(g:Nat)(z:ByteArray)(p:Nat)(a:AT)(K:St→AT→Prop)(τ:St):Prop:=
 match Nat.ble (d+1) n,a with
 |true,.br a1 a0=>(decide (p<z.size)=true→K ⟨upd τ.s d (.tup [.d (.bool true),.d (.int .i64 (p:Int)),.d (.int .i32 (Qd z p))]),updH τ.H k ⟨g,true,.s z (p+Gu z p),(τ.H k).sz,(τ.H k).cells⟩⟩ a1)∧(decide (p<z.size)=false→K ⟨upd τ.s d (.tup [.d (.bool false)]),τ.H⟩ a0)
 |_,_=>False
def Hv(P:Program)(T:Nat→Option TI)(l n:Nat)(r:Ren)(o:Oper)(a:AT)(K:St→AT→Prop)(τ:St):Prop:=
 match o.op with
 |.makeMap t b=>(match o.dst,T t,ZXc τ.s b with
  |some d,some i,true=>(match i.mp with|some (q,_)=>P2 n d (.m q []) (fun g=>.mp (1,d) g) K τ a|none=>False)
  |_,_,_=>False)
 |.mapUpdate t x y z=>Nj T r o.dst t (ev τ.s x) (ev τ.s y) (ev τ.s z) a K τ
 |.insert t x y z=>Nj T r o.dst t (ev τ.s x) (ev τ.s y) (ev τ.s z) a K τ
 |.range t x=>(match o.dst,T t,ev τ.s x with
  |some d,some i,.d (.map q es)=>(match i.mp with|some _=>P2 n d (.i q es none) (fun g=>.ptr (1,d) g 0) K τ a|none=>False)
  |some d,some i,.d (.str z)=>(match Nat.beq i.kin 2 with|true=>P2 n d (.s z 0) (fun g=>.ptr (1,d) g 0) K τ a|false=>False)
  |_,_,_=>False)
 |.next x false=>(match o.dst,ev τ.s x with
  |some d,.ptr k g 0=>(match Nat.beq k.1 1,BO τ.H k g,(τ.H k).e with
   |true,true,.i q rest _=>pNx n d k g q rest a K τ
   |_,_,_=>False)
  |_,_=>False)
 |.next x true=>(match o.dst,ev τ.s x with
  |some d,.ptr k g 0=>(match Nat.beq k.1 1,BO τ.H k g,(τ.H k).e with
   |true,true,.s z p=>pNs n d k g z p a K τ
   |_,_,_=>False)
  |_,_=>False)
 |.entry x=>(match o.dst,ev τ.s x with
  |some d,.ptr k g 0=>(match Nat.beq k.1 1,BO τ.H k g,(τ.H k).e,Nat.ble (d+1) n with
   |true,true,.i q rest (some (.str s::ds)),true=>K ⟨upd τ.s d (.tup [.d (.str s),G8 q ds]),updH τ.H k ⟨g,true,.i q rest none,(τ.H k).sz,(τ.H k).cells⟩⟩ a
   |_,_,_,_=>False)
  |_,_=>False)
 |.call c=>(match c.callee with
  |.builtin .delete=>(match c.args.toList,c.argTypes.toList with|[x,y],[t,_]=>pMd T r o.dst t (ev τ.s x) (ev τ.s y) a K τ|_,_=>False)
  |_=>IA P T l n r o a K τ)
 |_=>IA P T l n r o a K τ
def DA(env:B4):Option Nat→B4
 |some d=>(d,[])::env
 |none=>env
def FE(env:B4):Option Nat→Bool
 |some d=>fresh d env
 |none=>true
def GX(P:Program)(T:Nat→Option TI)(l n:Nat)(r:Ren)(ds:List (Option Nat)):List Oper→B4→AT→(St→B4→AT→Prop)→St→Prop
 |[],env,a,K,τ=>K τ env a
 |o::rest,env,a,K,τ=>match o.guard with
  |none=>(match Ch env [] o.op,FE env o.dst with
   |true,true=>Hv P T l n r o a (fun τ' c=>GX P T l n r ds rest (DA env o.dst) c K τ') τ
   |_,_=>False)
  |some (i,b)=>(match Bw ds i,o.dst with
   |some (some d),some e=>(match GK τ.s ((d,b)::lk env d),Ch env ((d,b)::lk env d) o.op,fresh e env&&M7 e ((d,b)::lk env d),Nat.ble (e+1) n with
    |some g,true,true,true=>pV P T l r τ o.op (some g) a (fun v c=>GX P T l n r ds rest ((e,(d,b)::lk env d)::env) c K ⟨upd τ.s e v,τ.H⟩)
    |_,_,_,_=>False)
   |_,_=>False)
def de(P:Program)(T:Nat→Option TI)(l n:Nat)(r:Ren)(o:Oper)(a:AT)(K:St→AT→Prop)(τ:St):Prop:=
 match o.op,o.dst with
 |.buildSlice t (len+1) ps,some d=>pV P T l r τ (.buildSlice t (len+1) ps) none a (Fl n d K τ)
 |_,_=>Hv P T l n r o a K τ
def GO(P:Program)(T:Nat→Option TI)(l n:Nat)(r:Ren)(ds:List (Option Nat)):List Oper→B4→AT→(St→B4→AT→Prop)→St→Prop
 |[],env,a,K,τ=>K τ env a
 |o::rest,env,a,K,τ=>match o.guard with
  |none=>(match Ch env [] o.op,FE env o.dst with
   |true,true=>de P T l n r o a (fun τ' c=>GO P T l n r ds rest (DA env o.dst) c K τ') τ
   |_,_=>False)
  |some (i,b)=>(match Bw ds i,o.dst with
   |some (some d),some e=>(match GK τ.s ((d,b)::lk env d),Ch env ((d,b)::lk env d) o.op,fresh e env&&M7 e ((d,b)::lk env d),Nat.ble (e+1) n with
    |some g,true,true,true=>pV P T l r τ o.op (some g) a (fun v c=>GO P T l n r ds rest ((e,(d,b)::lk env d)::env) c K ⟨upd τ.s e v,τ.H⟩)
    |_,_,_,_=>False)
   |_,_=>False)
section
variable {P:Program} {T:Nat→Option TI} {r:Ren} {l n outs:Nat} {B:Base} {env:B4} {τ σ:St} {a:AT} {o:Oper}
theorem R.adopt{act:Act}{w:World}{d:Nat}{e:TypeId}{sz:Nat}{s:Nat→AV}{H:Hp}(h:R l n B ⟨s,H⟩ act w)(k:Ad)(O:k.1=l+1)(g:Nat)(L:(H k).g<g)(K:s d=.e0):R l n B ⟨upd s d (.ref k g 0 0),updH H k ⟨g,true,e,sz,[]⟩⟩ act w:=by
 obtain⟨m,S,o,M,u,D,hex⟩:=h.un
 have c:Ext (l+1) H m S w (updH H k ⟨g,true,e,sz,[]⟩) (Bb m k ⟨0,0,0⟩) S w:=by
  refine⟨fun _ h=>h,fun _ _=>rfl,fun q f=>?_,fun q f hg hl=>?_,rfl,rfl,rfl,Yf _⟩
  ·by_cases a:q=k
   ·subst a;rw[AO];simp only;omega
   ·rw[AJ _ _ a];exact Yf _
  ·by_cases a:q=k
   ·subst a;rw[AO]at hg;simp only at hg;omega
   ·rw[AJ _ _ a]at hl⊢;rw[A1 _ _ a];exact⟨hl,rfl,rfl⟩
 have t:Ok (l+1) (updH H k ⟨g,true,e,sz,[]⟩) (Bb m k ⟨0,0,0⟩) S w:=by
  refine⟨o.sub,fun q f hl b=>?_,fun q f hl b=>?_,fun q F f y hl r b j he=>?_,fun q f hl b=>?_,o.mp.upd (Yf _) k _ rfl (fun q e=>A1 _ _ e) (fun _ h=>h) (fun _ h=>.inl h) (fun _ _=>rfl) (fun _ _ h _=>h)⟩
  ·by_cases a:q=k
   ·subst a;rw[AO]
   ·rw[AJ _ _ a]at hl⊢;rw[A1 _ _ a]at b;exact o.empty q f hl b
  ·by_cases a:q=k
   ·subst a;rw[A3]at b;exact absurd rfl b
   ·rw[AJ _ _ a]at hl;rw[A1 _ _ a]at b⊢;exact o.fresh q f hl b
  ·have p:q≠k:=by rintro rfl;rw[A3]at b;exact b rfl
   have A:F≠k:=by rintro rfl;rw[A3]at j;exact j rfl
   rw[AJ _ _ p]at hl;rw[AJ _ _ A]at r
   rw[A1 _ _ p]at b he;rw[A1 _ _ A]at j he
   exact o.inj q F f y hl r b j he
  ·have p:q≠k:=by rintro rfl;rw[A3]at b;exact b rfl
   rw[AJ _ _ p]at hl⊢;rw[A1 _ _ p]at b⊢
   obtain⟨C,G,I,J,z⟩:=o.blk q f hl b
   exact⟨C,G,I,J,fun i x v hi E=>⟨(z i x v hi E).1,(z i x v hi E).2.ext c f⟩⟩
 refine⟨_,_,t,M,u,fun i=>?_,hex.trans (c.mono (by omega))⟩
 simp only[upd]
 by_cases hi:i=d
 ·subst hi
  rw[Yg rfl]
  have:=D i
  rw[K]at this
  generalize act.tmps.getD i Go.undef=v at this⊢
  cases this with
  |e0 N=>
   have:=RepA.refL (w:=w) (S:=S) (H:=updH H k ⟨g,true,e,sz,[]⟩) (m:=Bb m k ⟨0,0,0⟩) (l:=l+1) k 0 0 N (by omega) (by rw[AO]) (by rw[A3];simp) (fun h=>by rw[A3]at h;simp at h)
   rw[AO,A3]at this
   exact this
 ·rw[Yj hi]
  exact(D i).ext c (Yf _)
def JW(r:Ren)(outs:Nat)(k:Ad):Prop:=k.1=1∨(k.1=0∧k.2<outs∧r.no (r.κ k))
theorem RenOk.ne(a:RenOk r l outs){q k:Ad}(f:q.1=1∨(q.1=0∧q.2<outs))(e:k.1=1∨(k.1=0∧k.2<outs))(b:q≠k):r.κ q≠r.κ k:=fun he=>by
 obtain⟨i,j⟩:=q
 obtain⟨g,h⟩:=k
 simp only at f e
 rcases f with rfl|⟨rfl,c⟩<;>rcases e with rfl|⟨rfl,d⟩
 ·rw[a.own,a.own]at he;simp at he;exact b (by rw[he])
 ·rw[a.own]at he;have:=a.out _ d;rw[←he]at this;simp at this;omega
 ·rw[a.own]at he;have:=a.out _ c;rw[he]at this;simp at this;omega
 ·exact b (by rw[a.inj _ _ c d he])
theorem JW.lk{k:Ad}(h:JW r outs k):k.1=1∨(k.1=0∧k.2<outs):=by
 rcases h with h|⟨a,b,_⟩
 ·grind
 grind
theorem RG.updK(j:RenOk r l outs)(h:RG r l outs env τ σ)(k:Ad)(b m:Blk)(o:b.live=true→m=AL r k b)(hg:m.g=r.γ k+b.g)(g:JW r outs k):
  RG r l outs env ⟨τ.s,Go.Eng.updH τ.H k b⟩ ⟨σ.s,Go.Eng.updH σ.H (r.κ k) m⟩:=by
 have f:=g.lk
 refine⟨h.s,fun q c=>?_,fun d=>?_,fun i hi=>?_,fun q c=>?_,fun q c p=>?_⟩
 ·simp only at c⊢
  by_cases e:q=k
  ·subst e;rw[AO]at c⊢;rw[AO];exact o c
  ·rw[AJ _ _ e]at c⊢;rw[AJ _ _ (j.ne (h.k _ c) f e)];exact h.h q c
 ·simp only
  by_cases a:((1,d):Ad)=k
  ·subst a;rw[AO,j.own,AO];exact hg
  ·have n:((l+1,d):Ad)≠r.κ k:=by rw[←j.own d];exact j.ne (.inl rfl) f a
   rw[AJ _ _ a,AJ _ _ n]
   exact h.g d
 ·simp only
  by_cases a:((0,i):Ad)=k
  ·subst a;rw[AO,AO];exact hg
  ·rw[AJ _ _ a,AJ _ _ (j.ne (.inr ⟨rfl,hi⟩) f a)]
   exact h.go i hi
 ·simp only at c
  by_cases e:q=k
  ·grind
  ·rw[AJ _ _ e]at c;exact h.k q c
 ·simp only
  have n:q≠r.κ k:=by
   rintro rfl
   rcases g with g|⟨_,_,g⟩
   ·obtain⟨s,t⟩:=k
    simp only at g
    subst g
    rw[j.own]at c
    grind
   grind
  rw[AJ _ _ n]
  exact h.o q c p
theorem RG.updH(c:RenOk r l outs)(h:RG r l outs env τ σ)(k:Ad)(b:Blk)(d:b.live=true)(a:JW r outs k):
  RG r l outs env ⟨τ.s,Go.Eng.updH τ.H k b⟩ ⟨σ.s,Go.Eng.updH σ.H (r.κ k) (AL r k b)⟩:=RG.updK c h k b _ (fun _=>rfl) rfl a
theorem MF(i:RenOk r l outs)(h:RG r l outs env τ σ){k:Ad}(hl:(τ.H k).live=true){vs:List AV}{A:Prop}(b:Hb r k vs A):A∧JW r outs k∧((r.κ k).1=l+1∨(Aq r vs).all (AV.low (r.κ k).1)=true):=by
 unfold Hb at b
 split at b
 ·rename_i a
  have a:=Yb a
  obtain⟨j,m⟩:=k
  simp only at a
  subst a
  exact⟨b,.inl rfl,.inl (by rw[i.own])⟩
 ·obtain⟨⟨d,e⟩,f,g⟩:=b
  rcases h.k k hl with c|⟨_,c⟩
  ·omega
  ·exact⟨g,.inr ⟨d,c,e⟩,.inr f⟩
theorem Ba{s:Nat→AV}:Di s []:=fun q a=>by cases a
theorem RG.put0(h:RG r l outs env τ σ){d:Nat}(a:fresh d env=true){v y:AV}(hy:y=ren r v):RG r l outs ((d,[])::env) ⟨upd τ.s d v,τ.H⟩ ⟨upd σ.s d y,σ.H⟩:=
 h.put a rfl (fun _=>hy) (fun b=>absurd Ba b)
def KS(r:Ren)(l outs:Nat)(env:B4)(K:St→AT→Prop)(σ:St):Prop:=∃τ a,K τ a∧RG r l outs env τ σ
theorem Me(i:RenOk r l outs)(h:RG r l outs env τ σ){K:St→AT→Prop}{d:Nat}(m:fresh d env=true){e:TypeId}{sz:Nat}{cells:List AV}{x x':Nat→AV}(o:∀g,x' (r.γ (1,d)+g)=ren r (x g))(b:IF n d e sz cells x K τ a):
  Eo l n d e sz (Aq r cells) x' (KS r l outs ((d,[])::env) K) σ:=by
 unfold IF at b
 split at b
 ·rename_i f
  have f:=Yh f
  refine⟨by omega,_,_,b,?_⟩
  have k:=h.put0 (v:=x ((τ.H (1,d)).g+1)) (y:=x' ((σ.H (l+1,d)).g+1)) m (by rw[h.g,YE];exact o _)
  have c:=RG.updH i k (1,d) ⟨(τ.H (1,d)).g+1,true,e,sz,cells⟩ rfl (.inl rfl)
  have j:AL r (1,d) ⟨(τ.H (1,d)).g+1,true,e,sz,cells⟩=⟨(σ.H (l+1,d)).g+1,true,e,sz,Aq r cells⟩:=by
   simp only[AL,h.g,YE]
  rw[j,i.own]at c
  exact c
 grind
theorem T5{K:St→AT→Prop}(h:RG r l outs env τ σ){d:Nat}(c:fresh d env=true){y:AV}(hy:KR r (Fl n d K τ) y):d<n∧KS r l outs ((d,[])::env) K ⟨upd σ.s d y,σ.H⟩:=by
 obtain⟨v,e,rfl,a⟩:=hy
 unfold Fl at a
 split at a
 ·rename_i b
  have b:=Yh b
  exact⟨by omega,_,_,a,h.put0 c rfl⟩
 grind
section
variable {H:Hp} {K K':AV→Prop} {t:TypeId} {x y:AV}
theorem gq(a:∀y,K y→K' y)(h:EI P H t x K):EI P H t x K':=by
 unfold EI at h⊢
 split at h
 ·grind
 ·grind
 grind
theorem ZiI{i:Nat}(a:∀y,K y→K' y)(h:E2 P H t i x K):E2 P H t i x K':=by
 unfold E2 at h⊢
 grind
theorem ZpZ{i:Nat}(a:∀y,K y→K' y)(h:Fe P t i x K):Fe P t i x K':=by
 unfold Fe at h⊢
 split at h
 ·split at h
  ·grind
  grind
 grind
theorem ZiP(a:∀y,K y→K' y)(h:EB P H t x y K):EB P H t x y K':=by
 unfold EB at h⊢
 grind
theorem ZqD(a:∀y,K y→K' y)(h:FC P t x y K):FC P t x y K':=by
 unfold FC at h⊢
 grind
theorem Zo1{neg:Bool}(a:∀y,K y→K' y)(h:D4 H neg x K):D4 H neg x K':=by
 unfold D4 at h⊢
 grind
theorem ZBS{op:BinOp}{b:Bool}(a:∀y,K y→K' y)(h:CR P H op t b x y K):CR P H op t b x y K':=by
 unfold CR at h⊢
 split at h
 ·exact⟨h.1,Zlp a h.2⟩
 ·exact Zls a h
 ·grind
 ·unfold GW at h⊢
  split at h
  ·split at h
   ·grind
   grind
  grind
 ·refine⟨h.1,h.2.1,?_⟩
  replace h:=h.2.2
  split at h
  ·exact Zo1 a h
  ·exact Zo1 a h
  grind
 grind
theorem ZKs{op:UnOp}(a:∀y,K y→K' y)(h:ET op x K):ET op x K':=by
 unfold ET at h⊢
 grind
theorem ZuQ{u:TypeId}(a:∀y,K y→K' y)(h:Ff P t u x K):Ff P t u x K':=by
 unfold Ff at h⊢
 grind
theorem ZqU{lo hi:Option AV}{a:Bool}(b:∀y,K y→K' y)(h:ED P H t x lo hi a K):ED P H t x lo hi a K':=by
 unfold ED at h⊢
 grind
theorem ZAX(a:∀y,K y→K' y)(h:D6 P H t x K):D6 P H t x K':=by
 unfold D6 at h⊢
 grind
theorem ZqW{ps:List (Nat×AV)}(a:∀y,K y→K' y)(h:FD P t ps K):FD P t ps K':=by
 unfold FD at h⊢
 grind
theorem Ut{op:Op}{ρ:Operand→AV}(d:∀y,K y→K' y)(h:A9 P H op ρ K):A9 P H op ρ K':=by
 cases op<;>simp only[A9]at h⊢<;>try exact h.elim
 case move x=>exact d _ h
 case assign x=>exact d _ h
 case pick c a b=>
  split at h
  ·grind
  ·grind
 case load=>exact gq d h
 case fieldAddr=>exact ZiI d h
 case field=>exact ZpZ d h
 case indexAddr=>exact ZiP d h
 case index=>exact ZqD d h
 case extract=>
  split at h
  ·grind
  ·grind
 case makeInterface=>
  refine⟨h.1,?_⟩
  replace h:=h.2
  repeat' split at h
  all_goals first|exact h.elim|exact d _ h
 case typeAssert=>
  refine⟨h.1,?_⟩
  replace h:=h.2
  repeat' split at h
  all_goals first|exact h.elim|exact⟨h.1,d _ h.2⟩
 case binOp=>exact ZBS d h
 case unOp=>exact ZKs d h
 case convert=>exact ZuQ d h
 case nilCheck=>
  unfold Iy at h⊢
  split at h
  ·grind
  ·grind
  ·grind
 case makeFunc=>exact d _ h
 case slice=>exact ZqU d h
 case build=>exact ZqW d h
 case lookup=>exact ZlP d h
 case call c=>
  split at h
  ·exact⟨h.1,ZAX d h.2⟩
  ·split at h
   ·unfold Ey at h⊢
    grind
   ·unfold GY at h⊢
    grind
   grind
  ·grind
end
end
end Go.Eng
