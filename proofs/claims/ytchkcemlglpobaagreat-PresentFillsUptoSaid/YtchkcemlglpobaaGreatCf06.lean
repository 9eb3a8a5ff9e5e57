import Derived.Test.YtchkcemlglpobaaGreatCf05
import Derived.Test.YtchkcemlglpobaaGreatCf03
import Derived.Test.YtchkcemlglpobaaGreatCf00
namespace Go.Eng
set_option linter.all false
open Go Go.RowKit
section
variable {P:Program} {l n:Nat} {B:Base} {H H':Hp} {m m':Mu} {S S':Nat→Prop} {w w':World} {s:Nat→AV} {a:Act} {K:St→Prop} {o:Oper}
def H3:Bool→AV→Option (List D)
 |true,.agg xs=>Cg xs
 |false,x=>(C6 x).map fun d=>[d]
 |_,_=>none
theorem vW{x:AV}{d:D}{v:Value}(h:C6 x=some d)(b:RepA w S H m l x v):RepD w S d v:=by
 cases x<;>simp only[C6]at h<;>try (cases h;done)
 case d x=>cases h;cases b with|d _ _ a=>exact a
 case e0=>cases h;cases b.e0_d with|d _ _ a=>exact a
theorem vf:∀(xs:List AV) (ds:List D) (vs:List Value),Cg xs=some ds→xs.length=vs.length→(∀(i:Nat) (x:AV) (v:Value),xs[i]?=some x→vs[i]?=some v→RepA w S H m l x v)→ds.length=vs.length∧∀(i:Nat) (d:D) (v:Value),ds[i]?=some d→vs[i]?=some v→RepD w S d v
 |[],ds,[],h,_,_=>by simp only[Cg,Yf]at h;subst h;exact⟨rfl,fun i d v hi=>by simp at hi⟩
 |x::xs,ds,v::vs,h,hl,b=>by
  simp only[Cg]at h
  split at h
  ·rename_i d a f g
   cases h
   obtain⟨a1,e⟩:=vf xs a vs g (K1 hl) (fun i x v k j=>b (i+1) x v (by simpa using k) (by simpa using j))
   refine⟨by simp[a1],fun i d' u hi c=>?_⟩
   cases i with
   |zero=>cases hi;cases c;exact vW f (b 0 x _ rfl rfl)
   |succ i=>exact e i d' u (by simpa using hi) (by simpa using c)
  ·cases h
 |[],_,_::_,_,h,_=>by cases h
 |_::_,_,[],_,h,_=>by cases h
theorem Zyw{q:Bool}{x:AV}{ds:List D}{v:Value}(h:H3 q x=some ds)(a:RepA w S H m l x v):VR w S q ds v:=by
 cases q with
 |true=>
  cases x<;>simp only[H3]at h<;>try (cases h;done)
  case agg xs=>
   cases a with
   |agg _ vs hl b e=>
    obtain⟨a1,c⟩:=vf xs ds vs.toList h (by simpa using hl) (fun i x v a k=>e i x v a (by simpa using k))
    exact .inl ⟨rfl,vs,rfl,by simpa using a1.symm,fun j d u f g=>c j d u f (by simpa using g)⟩
 |false=>
  have h:(C6 x).map (fun d=>[d])=some ds:=by cases x<;>exact h
  obtain⟨d,b,rfl⟩:=Y0.1 h
  exact .inr ⟨rfl,d,rfl,vW b a⟩
def Pd(l n d:Nat)(e:EK)(x:Nat→AV)(K:St→Prop)(σ:St):Prop:=
 d<n∧K ⟨upd σ.s d (x ((σ.H (l+1,d)).g+1)),updH σ.H (l+1,d) ⟨(σ.H (l+1,d)).g+1,true,e,0,[]⟩⟩
theorem Zld{t:TypeId}{z:Option Operand}{d:Nat}{q:Bool}(G:o.op=.makeMap t z)(f:o.dst=some d)(r:∃k e,P.underlying t=some (.map k e))(I:∀x,z=some x→∃k i,ev s x=.d (.int k i))
  (A:Pd l n d (.m q []) (fun g=>.mp (l+1,d) g) K ⟨s,H⟩):BG P l n B o K ⟨s,H⟩:=by
 intro a w E Q
 obtain⟨m,S,D,F,p,C,he⟩:=E.un
 obtain⟨O,N,r⟩:=r
 have c:(execOp a.eval o).run P w=.ok (.value (.map (some w.heap.size))) (w.alloc (.map #[] 0)):=by
  simp only[execOp,G]
  cases z with
  |none=>simp[Instr.makeMap]
  |some x=>
   obtain⟨k,i,J⟩:=I x rfl
   have b:=BM C x
   rw[J]at b
   have u:a.eval x=.int k i:=by
    generalize a.eval x=v at b
    cases b with|d _ _ f=>cases f;rfl
   simp[Instr.makeMap,run_underlying r,asInt,asIntOf,u]
 obtain⟨L,M⟩:=D.allocO (l+1,d) (Ye _) ⟨(H (l+1,d)).g+1,true,.m q [],0,[]⟩ rfl rfl (YT _) (.map #[] 0) (w':=w.alloc (.map #[] 0)) rfl
  ⟨#[],0,by rw[F2,if_pos rfl],⟨rfl,fun i j x y h=>by simp at h,fun i x h=>by simp at h,fun i e x h=>by simp at h⟩⟩ rfl rfl rfl
 refine B5 c ?_
 rw[f]
 refine⟨_,A.2,R.step L F p C he M A.1 ?_⟩
 have:=RepA.mpL (w:=w.alloc (.map #[] 0)) (S:=S) (H:=updH H (l+1,d) ⟨(H (l+1,d)).g+1,true,.m q [],0,[]⟩) (m:=A6 m (l+1,d) ⟨w.heap.size,0,0⟩) (l:=l+1) (l+1,d) (Ye _) (by rw[AM])
 rw[AM,AY]at this
 exact this
theorem L3{w:World}{r:Nat}{a:Array MapEntry}{c:Nat}(h:w.heap[r]?=some (.map a c))(b:Obj):(setObj r b).run P w=.ok () (ChangeMaps.setBlock w r b):=by
 simp[setObj,Sem.run,h,ChangeMaps.setBlock]
theorem Eh{w:World}{r:Nat}{d:Obj}(h:w.heap[r]?=some d)(a:Obj)(b:Nat):(ChangeMaps.setBlock w r a).heap[b]?=if b=r then some a else w.heap[b]?:=by
 have c:=Fl h
 simp only[ChangeMaps.setBlock,Y9]
 grind
theorem vx(a b:ByteArray)(h:a=b):(Instr.keyThatStays (.string a) (.string b)).run P w=.ok (.string b) w:=by
 subst h
 have:Instr.sameBits 10000 (.string a) (.string a)=true:=by simp only[Instr.sameBits,cu,decide_true]
 simp[Instr.keyThatStays,this]
theorem Zrh{t:TypeId}{q:Bool}{z:List D}{k:Ad}{es:List (List D)}{sk:ByteArray}{ds:List D}{v:Value}(I:Hy P t=some (q,z))(u:Ok (l+1) H m S w)(A:k.1≤l+1)(hl:(H k).live=true)(he:(H k).e=.m q es)(E:VR w S q ds v):
  ∃w',(Instr.mapUpdate t (.map (some (m k).b)) (.string sk) v).run P w=.ok () w'∧Ok (l+1) (updH H k {H k with e:=.m q (CG sk ds es) }) m S w'∧Ext (l+1) H m S w (updH H k {H k with e:=.m q (CG sk ds es) }) m S w':=by
 obtain⟨Q,O,C,f,_,_⟩:=Mq I
 have B:=u.mp.o k A hl
 rw[he]at B
 obtain⟨ents,d,g,p⟩:=B
 have n:(H k).e.isO=true:=by rw[he];rfl
 obtain⟨K,y⟩:=u.mp.c k A hl n
 have fin:∀(c:Array MapEntry) (a:Nat),MEnt w S q (CG sk ds es) c a→Ok (l+1) (updH H k {H k with e:=.m q (CG sk ds es) }) m S (ChangeMaps.setBlock w (m k).b (.map c a))∧Ext (l+1) H m S w (updH H k {H k with e:=.m q (CG sk ds es) }) m S (ChangeMaps.setBlock w (m k).b (.map c a)):=fun c a hm=>
  u.writeO k A hl n (.m q (CG sk ds es)) rfl (.map c a) (Eh g _) (by simp[ChangeMaps.setBlock])
   ⟨c,a,by rw[Eh g];simp,hm.mono (fun _ h=>h) (fun b J=>by rw[Eh g,if_neg];rintro rfl;exact y J)⟩ rfl rfl rfl
 rcases QH (w:=w) (S:=S) (q:=q) (s:=sk) es ents.toList 0 (by simp[p.n]) (fun i e x hi L=>p.e i e x hi (by simpa using L))with⟨a1,r,a3,_⟩|⟨j,x',G,a1,r,a3,a4,a5,F,M,N⟩
 ·refine⟨ChangeMaps.setBlock w (m k).b (.map (ents.push {key:=.string sk,val:=v,born:=d }) (d+1)),?_,?_⟩
  ·simp[Instr.mapUpdate,run_underlying C,MapKept.run_getObj_map g,MapKept.run_checkKey f (show MapKept.IsKey .string (.string sk)from trivial),MapKept.run_findKey f r,L3 g]
  ·rw[a3 ds]at fin⊢
   exact fin _ _ (p.push E)
 ·have o:ents[0+j]?=some x':=by simpa using r
  refine⟨ChangeMaps.setBlock w (m k).b (.map (ents.modify (0+j) fun e=>{e with key:=.string sk,val:=v }) d),?_,?_⟩
  ·simp[Instr.mapUpdate,run_underlying C,MapKept.run_getObj_map g,MapKept.run_checkKey f (show MapKept.IsKey .string (.string sk)from trivial),MapKept.run_findKey f a1,o,a3,vx,L3 g]
   simp only[Yz]at o
   simp[o,a3,vx,L3 g]
  ·rw[F ds]at fin⊢
   simp only[Yz]at o⊢
   exact fin _ _ (p.mod o E)
theorem Mr{k:Ad}{g:Nat}{v:Value}(h:RepA w S H m l (.mp k g) v)(b:g=(H k).g)(hl:(H k).live=true):k.1≤l∧v=.map (some (m k).b):=by
 cases h with
 |mpL _ c _=>exact⟨c,rfl⟩
 |mpD _ _ _ _ _ a _=>rw[a b]at hl;cases hl
theorem ZkB{t:TypeId}{p c r:Operand}{k:Ad}{g:Nat}{q:Bool}{z:List D}{es:List (List D)}{sk:ByteArray}{ds:List D}(j:o.op=.mapUpdate t p c r∨o.op=.insert t p c r)(u:o.dst=none)(G:Hy P t=some (q,z))
  (hm:ev s p=.mp k g) (I:g=(H k).g) (hl:(H k).live=true) (he:(H k).e=.m q es) (J:ev s c=.d (.str sk)) (M:H3 q (ev s r)=some ds)
  (C:K ⟨s,updH H k {H k with e:=.m q (CG sk ds es) }⟩):BG P l n B o K ⟨s,H⟩:=by
 intro a w F Q
 obtain⟨m,S,E,L,x,i,y⟩:=F.un
 have f:=BM i p
 rw[hm]at f
 obtain⟨N,O⟩:=Mr f I hl
 have b:=BM i c
 rw[J]at b
 have A:a.eval c=.string sk:=by
  generalize a.eval c=v at b
  cases b with|d _ _ u=>cases u;rfl
 obtain⟨w',T,U,V⟩:=Zrh (sk:=sk) G E N hl he (Zyw M (BM i r))
 have h:(execOp a.eval o).run P w=.ok .skip w':=by
  rcases j with j|j<;>simp[execOp,j,O,A,T]
 unfold Oper.wp
 rw[h]
 simp only[Oper.upon,u,Act.put]
 exact⟨_,C,R.keep U L x i y V⟩
theorem Zn8{t t':TypeId}{V G:Operand}{k:Ad}{g:Nat}{q:Bool}{z:List D}{es:List (List D)}{sk:ByteArray}(X:o.op=.call ⟨.builtin .delete,#[V,G],#[t,t']⟩)(N:o.dst=none)(hT:Hy P t=some (q,z))
  (hm:ev s V=.mp k g) (hg:g=(H k).g) (hl:(H k).live=true) (he:(H k).e=.m q es) (hk:ev s G=.d (.str sk))
  (hK:K ⟨s,updH H k {H k with e:=.m q (CI sk es) }⟩):BG P l n B o K ⟨s,H⟩:=by
 intro a w hR Q
 obtain⟨m,S,J,hn,O,L,T⟩:=hR.un
 have E:=BM L V
 rw[hm]at E
 obtain⟨U,Z⟩:=Mr E hg hl
 have y:=BM L G
 rw[hk]at y
 have C:a.eval G=.string sk:=by
  generalize a.eval G=v at y
  cases y with|d _ _ N=>cases N;rfl
 obtain⟨kt,et,Y,r,_,_⟩:=Mq hT
 have F:=J.mp.o k U hl
 rw[he]at F
 obtain⟨ents,p,u,I⟩:=F
 have A:(H k).e.isO=true:=by rw[he];rfl
 obtain⟨hc1,M⟩:=J.mp.c k U hl A
 have fin:∀(f:Array MapEntry) (c:Nat),MEnt w S q (CI sk es) f c→Ok (l+1) (updH H k {H k with e:=.m q (CI sk es) }) m S (ChangeMaps.setBlock w (m k).b (.map f c))∧Ext (l+1) H m S w (updH H k {H k with e:=.m q (CI sk es) }) m S (ChangeMaps.setBlock w (m k).b (.map f c)):=fun f c hm=>
  J.writeO k U hl A (.m q (CI sk es)) rfl (.map f c) (Eh u _) (by simp[ChangeMaps.setBlock])
   ⟨f,c,by rw[Eh u];simp,hm.mono (fun _ h=>h) (fun b hb=>by rw[Eh u,if_neg];rintro rfl;exact M hb)⟩ rfl rfl rfl
 have key:∃w',(execOp a.eval o).run P w=.ok (.value (.tuple #[])) w'∧Ok (l+1) (updH H k {H k with e:=.m q (CI sk es) }) m S w'∧Ext (l+1) H m S w (updH H k {H k with e:=.m q (CI sk es) }) m S w':=by
  rcases QH (w:=w) (S:=S) (q:=q) (s:=sk) es ents.toList 0 (by simp[I.n]) (fun i e x hi hx=>I.e i e x hi (by simpa using hx))with⟨a1,W,_,a4⟩|⟨j,x',ds',a1,W,a3,a4,a5,a6,a7,a8⟩
  ·refine⟨ChangeMaps.setBlock w (m k).b (.map ents p),?_,?_⟩
   ·simp[execOp,X,resolve,invoke,Go.builtin,Z,C,Builtin.delete_,run_underlying Y,MapKept.run_getObj_map u,MapKept.run_checkKey r (show MapKept.IsKey .string (.string sk)from trivial),MapKept.run_findKey r W,L3 u]
   grind
  ·have hj:j<ents.size:=by
    grind
   refine⟨ChangeMaps.setBlock w (m k).b (.map (ents.eraseIdxIfInBounds (0+j)) p),?_,?_⟩
   ·simp[execOp,X,resolve,invoke,Go.builtin,Z,C,Builtin.delete_,run_underlying Y,MapKept.run_getObj_map u,MapKept.run_checkKey r (show MapKept.IsKey .string (.string sk)from trivial),MapKept.run_findKey r a1,L3 u]
   ·rw[a7]at fin⊢
    simp only[Yz]
    exact fin _ _ (I.del hj)
 obtain⟨w',r1,r2,r3⟩:=key
 refine B5 r1 ?_
 rw[N]
 exact⟨_,hK,R.keep r2 hn O L T r3⟩
theorem Zph{t:TypeId}{x:Operand}{d:Nat}{q:Bool}{es:List (List D)}(I:o.op=.range t x)(j:o.dst=some d)(y:∃k e,P.underlying t=some (.map k e))(T:ev s x=.d (.map q es))
  (E:Pd l n d (.i q es none) (fun g=>.ptr (l+1,d) g 0) K ⟨s,H⟩):BG P l n B o K ⟨s,H⟩:=by
 intro a w M Q
 obtain⟨m,S,F,O,A,G,he⟩:=M.un
 obtain⟨X,W,y⟩:=y
 have f:=BM G x
 rw[T]at f
 have key:∃i,(execOp a.eval o).run P w=.ok (.value (.pointer (some ⟨w.heap.size,0,none⟩))) (w.alloc i)∧tG (w.alloc i) S w.heap.size q es none:=by
  generalize J:a.eval x=v at f
  cases f with
  |d _ _ j=>
   cases v with
   |map r=>
    cases r with
    |none=>
     cases j
     refine⟨.mapIter none 0 #[] 0,?_,.inl ⟨rfl,rfl,0,#[],0,by rw[F2,if_pos rfl]⟩⟩
     simp[execOp,I,J,Instr.range,run_underlying y]
    |some r=>
     obtain⟨hs,ents,c,z,C⟩:=j.toM
     refine⟨.mapIter (some r) c #[] c,?_,.inr ⟨r,ents,c,es,#[],by rw[F2,if_pos rfl],hs,?_,?_,?_,fun e h=>by cases h⟩⟩
     ·simp[execOp,I,J,Instr.range,run_underlying y,MapKept.run_getObj_map z]
     ·rw[F2,if_neg (by have:=Fl z;omega)];exact z
     ·exact C.mono (fun _ h=>h) (fun b N=>by rw[F2,if_neg (by have:=F.sub b N;omega)])
     ·have:((ents.toList.zip es).filter (fun p=>!(#[]:Array Nat).contains p.1.born))=ents.toList.zip es:=by
       rw[TZ];intro p _;simp
      rw[this,List.map_snd_zip]
      simp[C.n]
   |_=>cases j
 obtain⟨i,u,L⟩:=key
 obtain⟨U,V⟩:=F.allocO (l+1,d) (Ye _) ⟨(H (l+1,d)).g+1,true,.i q es none,0,[]⟩ rfl rfl (YT _) i (w':=w.alloc i) rfl L rfl rfl rfl
 refine B5 u ?_
 rw[j]
 refine⟨_,E.2,R.step U O A G he V E.1 ?_⟩
 have:=RepA.ptrL (w:=w.alloc i) (S:=S) (H:=updH H (l+1,d) ⟨(H (l+1,d)).g+1,true,.i q es none,0,[]⟩) (m:=A6 m (l+1,d) ⟨w.heap.size,0,0⟩) (l:=l+1) (l+1,d) 0 (Ye _) (by rw[AM])
 rw[AM,AY]at this
 exact this
def jq(q:Bool):List D→AV
 |.str k::ds=>.tup [.d (.bool true),.d (.str k),FO q ds]
 |_=>.top
theorem be{α β:Type}(f:α→β):∀(L:List α) (i:Nat),(L.eraseIdx i).map f=(L.map f).eraseIdx i
 |[],i=>by simp
 |x::L,0=>rfl
 |x::L,i+1=>by simp only[TV,YS,be f L i]
theorem i1{α β:Type}{xs:List α}{ys:List β}{i:Nat}{p:α×β}(h:(xs.zip ys)[i]?=some p):xs[i]?=some p.1∧ys[i]?=some p.2:=by
 grind
theorem ZvP{x:Operand}{d:Nat}{k:Ad}{g:Nat}{q:Bool}{rest:List (List D)}{cur:Option (List D)}(ho:o.op=.next x false)(hd:o.dst=some d)(f:ev s x=.ptr k g 0)(hg:g=(H k).g)(hl:(H k).live=true)(he:(H k).e=.i q rest cur)(G:d<n)
  (h0:rest=[]→K ⟨upd s d (.tup [.d (.bool false)]),H⟩)
  (h1:∀(i:Nat) (e:List D),rest[i]?=some e→K ⟨upd s d (jq q e),updH H k {H k with e:=.i q (rest.eraseIdx i) (some e) }⟩):BG P l n B o K ⟨s,H⟩:=by
 intro a w hR Q
 obtain⟨m,S,X,hn,F,hS,I⟩:=hR.un
 have U:=BM hS x
 rw[f]at U
 have M:k.1≤l+1∧a.eval x=.pointer (some ⟨(m k).b,(m k).o,none⟩):=by
  generalize a.eval x=v at U
  cases U with
  |ptrL _ _ M _=>exact⟨M,by simp⟩
  |ptrD _ _ _ _ _ _ hd _=>rw[hd hg]at hl;cases hl
 obtain⟨M,A⟩:=M
 have W:(H k).e.isO=true:=by rw[he];rfl
 obtain⟨⟨hc0,hc1⟩,Z⟩:=X.mp.c k M hl W
 rw[hc1]at A
 have hob:=X.mp.o k M hl
 rw[he]at hob
 rcases hob with⟨e1,e2,u1,u2,u3,e3⟩|⟨r,ents,c,es,seen,b1,b2,b3,V,b5,b6⟩
 ·refine B5 (v:=.tuple #[.bool false]) (w':=w) ?_ ?_
  ·simp[execOp,ho,A,Instr.next,getObj,Sem.run,e3]
  ·rw[hd]
   exact⟨_,h0 e1,R.step X hn F hS I (Ext.refl _ _ _ _ _) G (.tup _ _ rfl (fun i x v f T=>by
    match i with
    |0=>cases f;cases T;exact .d _ _ (.bool _)
    |i+1=>simp at f))⟩
 ·have E:∀(i j:Nat) (x y:MapEntry×List D),(ents.toList.zip es)[i]?=some x→(ents.toList.zip es)[j]?=some y→x.1.born=y.1.born→i=j:=fun i j x y f hy e=>
   V.born i j x.1 y.1 (by simpa using(i1 f).1) (by simpa using(i1 hy).1) e
  have N:∀e:MapEntry,e∈(leftOf ents seen).toList→∃(i:Nat) (d:List D),((ents.toList.zip es).filter (fun p=>!seen.contains p.1.born))[i]?=some (e,d):=fun e hm=>by
   have hm:e∈ents.toList∧(!seen.contains e.born)=true:=by simpa[leftOf]using hm
   obtain⟨j,hj⟩:=YK.1 hm.1
   have hlt:j<es.length:=by rw[←V.n];rw[Yn]at hj;exact Fl hj
   have hz:(e,es[j])∈ents.toList.zip es:=YK.2 ⟨j,List.getElem?_zip_eq_some.2 ⟨hj,Yb hlt⟩⟩
   obtain⟨i,hi⟩:=YK.1 ((Y6 (p:=fun p:MapEntry×List D=>!seen.contains p.1.born)).2 ⟨hz,hm.2⟩)
   grind
  rcases run_next_at (P:=P) w o.type (m k).b r c c seen ents c b1 b3 (fun x f=>by
    obtain⟨i,hi⟩:=YK.1 f
    exact V.clk i x (by simpa using hi)) (Ye _)with⟨c1,c2⟩|⟨e,c1,C,c2,c3⟩
  ·have O:rest=[]:=by
    rw[b5,T0,kN]
    intro p hp hb
    obtain⟨i,hi⟩:=YK.1 hp
    have:p.1∈(leftOf ents seen).toList:=by
     simp only[leftOf,Array.toList_filter,Y6]
     grind
    grind
   refine B5 (v:=.tuple #[.bool false]) (w':=w) ?_ ?_
   ·simp[execOp,ho,A,c2]
   ·rw[hd]
    exact⟨_,h0 O,R.step X hn F hS I (Ext.refl _ _ _ _ _) G (.tup _ _ rfl (fun i x v f T=>by
     match i with
     |0=>cases f;cases T;exact .d _ _ (.bool _)
     |i+1=>simp at f))⟩
  ·obtain⟨i,d',hi⟩:=N e c1
   have hzip:=Y6.1 (Yi hi)
   obtain⟨j,hj⟩:=YK.1 hzip.1
   obtain⟨J,L⟩:=i1 hj
   simp only[Yn]at J L
   obtain⟨sk,ds,q1,q2,q3⟩:=V.e j _ _ L J
   subst q1
   have hri:rest[i]?=some (.str sk::ds):=by rw[b5,Yx,hi];rfl
   have hre:rest.eraseIdx i=((ents.toList.zip es).filter (fun p=>!(seen.push e.born).contains p.1.born)).map (·.2):=by
    rw[b5]
    have:=au (fun p:MapEntry×List D=>p.1.born) (fun p=>!seen.contains p.1.born) (ents.toList.zip es) E i _ hi
    rw[←be,←this]
    grind
   have t:C.heap=w.heap∧C.os=w.os∧C.tape=w.tape∧C.output=w.output:=by rcases c2 with rfl|rfl<;>exact⟨rfl,rfl,rfl,rfl⟩
   have Y:=X.drew (w':=C) t.1 t.2.1 t.2.2.1 t.2.2.2
   have z:C.heap[(m k).b]?=some (.mapIter (some r) c seen c):=by rw[t.1];exact b1
   obtain⟨k1,k2⟩:=Y.1.writeO k M hl W (.i q (rest.eraseIdx i) (some (.str sk::ds))) rfl (.mapIter (some r) c (seen.push e.born) c) (w':=ChangeMaps.setBlock C (m k).b (.mapIter (some r) c (seen.push e.born) c))
    (Eh z _) (by simp[ChangeMaps.setBlock]) (.inr ⟨r,ents,c,es,seen.push e.born,by rw[Eh z];simp,b2,by rw[Eh z,if_neg (by rintro rfl;exact Z b2),t.1];exact b3,
     V.mono (fun _ h=>h) (fun b hb=>by rw[Eh z,if_neg (by rintro rfl;exact Z hb),t.1]),hre,fun e' he'=>by cases he';exact⟨j,e,L,J,by simp⟩⟩) rfl rfl rfl
   have u:=Y.2.trans k2
   refine B5 (v:=.tuple #[.bool true,e.key,e.val]) (w':=ChangeMaps.setBlock C (m k).b (.mapIter (some r) c (seen.push e.born) c)) ?_ ?_
   ·simp[execOp,ho,A,c3]
   ·rw[hd]
    refine⟨_,h1 i _ hri,R.step k1 hn F hS I u G ?_⟩
    simp only[jq]
    refine .tup _ _ rfl (fun i x v f T=>?_)
    match i with
    |0=>cases f;cases T;exact .d _ _ (.bool _)
    |1=>cases f;cases T;rw[q2];exact .d _ _ (.str _)
    |2=>cases f;cases T;exact Qp (q3.mono u.s u.blk)
    |i+3=>simp at f
def Nm(z:ByteArray)(p:Nat):Int:=((Utf8.decode z p).1:Nat)
def E3(z:ByteArray)(p:Nat):Nat:=(Utf8.decode z p).2
theorem Zoc{t:TypeId}{x:Operand}{d:Nat}{z:ByteArray}(q:o.op=.range t x)(e:o.dst=some d)(r:P.underlying t=some .string)(y:ev s x=.d (.str z))
  (h:Pd l n d (.s z 0) (fun g=>.ptr (l+1,d) g 0) K ⟨s,H⟩):BG P l n B o K ⟨s,H⟩:=by
 intro a w k Q
 obtain⟨m,S,j,p,f,i,he⟩:=k.un
 have b:=BM i x
 rw[y]at b
 have c:(execOp a.eval o).run P w=.ok (.value (.pointer (some ⟨w.heap.size,0,none⟩))) (w.alloc (.stringIter z 0)):=by
  generalize u:a.eval x=v at b
  cases b with
  |d _ _ e=>
   cases e
   simp[execOp,q,u,Instr.range,run_underlying r]
 obtain⟨A,C⟩:=j.allocO (l+1,d) (Ye _) ⟨(H (l+1,d)).g+1,true,.s z 0,0,[]⟩ rfl rfl (YT _) (.stringIter z 0) (w':=w.alloc (.stringIter z 0)) rfl (by show(w.alloc _).heap[w.heap.size]?=_;rw[F2,if_pos rfl]) rfl rfl rfl
 refine B5 c ?_
 rw[e]
 refine⟨_,h.2,R.step A p f i he C h.1 ?_⟩
 have:=RepA.ptrL (w:=w.alloc (.stringIter z 0)) (S:=S) (H:=updH H (l+1,d) ⟨(H (l+1,d)).g+1,true,.s z 0,0,[]⟩) (m:=A6 m (l+1,d) ⟨w.heap.size,0,0⟩) (l:=l+1) (l+1,d) 0 (Ye _) (by rw[AM])
 rw[AM,AY]at this
 exact this
theorem Zrc{x:Operand}{d:Nat}{k:Ad}{g:Nat}{z:ByteArray}{p:Nat}(I:o.op=.next x true)(C:o.dst=some d)(c:ev s x=.ptr k g 0)(T:g=(H k).g)(hl:(H k).live=true)(he:(H k).e=.s z p)(t:d<n)
  (J:¬p<z.size→K ⟨upd s d (.tup [.d (.bool false)]),H⟩)
  (L:p<z.size→K ⟨upd s d (.tup [.d (.bool true),.d (.int .i64 (p:Int)),.d (.int .i32 (Nm z p))]),updH H k {H k with e:=.s z (p+E3 z p) }⟩):BG P l n B o K ⟨s,H⟩:=by
 intro a w M Q
 obtain⟨m,S,A,G,r,E,u⟩:=M.un
 have j:=BM E x
 rw[c]at j
 have h:k.1≤l+1∧a.eval x=.pointer (some ⟨(m k).b,(m k).o,none⟩):=by
  generalize a.eval x=v at j
  cases j with
  |ptrL _ _ h _=>exact⟨h,by simp⟩
  |ptrD _ _ _ _ _ _ C _=>rw[C T]at hl;cases hl
 obtain⟨h,f⟩:=h
 have q:(H k).e.isO=true:=by rw[he];rfl
 obtain⟨⟨N,F⟩,O⟩:=A.mp.c k h hl q
 rw[F]at f
 have b:=A.mp.o k h hl
 rw[he]at b
 have b:w.heap[(m k).b]?=some (.stringIter z p):=b
 by_cases D:p<z.size
 ·obtain⟨U,V⟩:=A.writeO k h hl q (.s z (p+E3 z p)) rfl (.stringIter z (p+E3 z p)) (w':=ChangeMaps.setBlock w (m k).b (.stringIter z (p+E3 z p))) (Eh b _) (by simp[ChangeMaps.setBlock]) (by show(ChangeMaps.setBlock _ _ _).heap[_]?=_;rw[Eh b,if_pos rfl]) rfl rfl rfl
  refine B5 (v:=.tuple #[.bool true,goInt p,.int .i32 (Nm z p)]) (w':=ChangeMaps.setBlock w (m k).b (.stringIter z (p+E3 z p))) ?_ ?_
  ·simp[execOp,I,f,Instr.next,getObj,setObj,Sem.run,b,D,ChangeMaps.setBlock,Nm,E3]
  ·rw[C]
   refine⟨_,L D,R.step U G r E u V t ?_⟩
   refine .tup _ _ rfl (fun i x v c y=>?_)
   match i with
   |0=>cases c;cases y;exact .d _ _ (.bool _)
   |1=>cases c;cases y;exact .d _ _ (.int _ _)
   |2=>cases c;cases y;exact .d _ _ (.int _ _)
   |i+3=>simp at c
 ·refine B5 (v:=.tuple #[.bool false]) (w':=w) ?_ ?_
  ·simp[execOp,I,f,Instr.next,getObj,Sem.run,b,D]
  ·rw[C]
   exact⟨_,J D,R.step A G r E u (Ext.refl _ _ _ _ _) t (.tup _ _ rfl (fun i x v c y=>by
    match i with
    |0=>cases c;cases y;exact .d _ _ (.bool _)
    |i+1=>simp at c))⟩
theorem ZtR{x:Operand}{d:Nat}{k:Ad}{g:Nat}{q:Bool}{rest:List (List D)}{sk:ByteArray}{ds:List D}(ho:o.op=.entry x)(L:o.dst=some d)(E:ev s x=.ptr k g 0)(hg:g=(H k).g)(hl:(H k).live=true)(he:(H k).e=.i q rest (some (.str sk::ds)))(N:d<n)
  (hK:K ⟨upd s d (.tup [.d (.str sk),FO q ds]),updH H k {H k with e:=.i q rest none }⟩):BG P l n B o K ⟨s,H⟩:=by
 intro a w hR Q
 obtain⟨m,S,I,hn,M,X,T⟩:=hR.un
 have t:=BM X x
 rw[E]at t
 have h:k.1≤l+1∧a.eval x=.pointer (some ⟨(m k).b,(m k).o,none⟩):=by
  generalize a.eval x=v at t
  cases t with
  |ptrL _ _ h _=>exact⟨h,by simp⟩
  |ptrD _ _ _ _ _ _ L _=>rw[L hg]at hl;cases hl
 obtain⟨h,z⟩:=h
 have u:(H k).e.isO=true:=by rw[he];rfl
 obtain⟨⟨hc0,J⟩,hc2⟩:=I.mp.c k h hl u
 rw[J]at z
 have A:=I.mp.o k h hl
 rw[he]at A
 rcases A with⟨e1,e2,_⟩|⟨r,ents,c,es,seen,V,b2,W,F,b5,b6⟩
 ·cases e2
 ·obtain⟨i,x',c1,G,c3⟩:=b6 _ rfl
  obtain⟨sk',ds',q1,q2,q3⟩:=F.e i _ _ c1 G
  cases q1
  have f:ents.find? (fun y=>y.born==x'.born)=some x':=by
   rw[←Array.find?_toList]
   refine find_born x' ents.toList ?_ (by rw[←Yn]at G;exact Yi G)
   rw[List.nodup_iff_pairwise_ne,List.pairwise_iff_getElem]
   intro i j hi Y hij e
   rw[Yq]at hi Y
   have Z:=Yb hi
   have C:=Yb Y
   rw[Yn]at Z C
   have:=F.born i j _ _ Z C (by simpa using e)
   omega
  have p:∀b,w.heap[b]?=if b=(m k).b then some (.mapIter (some r) c seen c)else w.heap[b]?:=fun b=>by
   grind
  obtain⟨k1,U⟩:=I.writeO k h hl u (.i q rest none) rfl (.mapIter (some r) c seen c) (w':=w) p rfl (.inr ⟨r,ents,c,es,seen,V,b2,W,F,b5,fun e' O=>by cases O⟩) rfl rfl rfl
  refine B5 (v:=.tuple #[x'.key,x'.val]) (w':=w) ?_ ?_
  ·simp[execOp,ho,z,Instr.entry,getObj,Sem.run,V,W,c3,f]
  ·rw[L]
   refine⟨_,hK,R.step k1 hn M X T U N (.tup _ _ rfl (fun i x v E C=>?_))⟩
   match i with
   |0=>cases E;cases C;rw[q2];exact .d _ _ (.str _)
   |1=>cases E;cases C;exact Qp (q3.mono U.s U.blk)
   |i+2=>simp at E
end
end Go.Eng
namespace Go.Eng
set_option linter.all false
open Go Go.RowKit
def rU(x:EK)(e:Nat):Bool:=
 match x with
 |.t e'=>Nat.beq e' e
 |_=>false
theorem ZFj{x:EK}{e:Nat}(h:rU x e=true):x=.t e:=by
 cases x with
 |t e'=>rw[Ya (show Nat.beq e' e=true from h)]
 |_=>cases h
def Bp(a b:Ad):Bool:=Nat.beq a.1 b.1&&Nat.beq a.2 b.2
def AV.onef:AV→Bool
 |.top|.agg _|.tup _|.fn _ _ _=>false
 |_=>true
def D3(sz:Nat)(C:List AV)(y:AV)(c:Nat)(news:List AV):Prop:=
 news.all AV.onef=true∧match y with
 |.e0=>c=0∧news=[]
 |.d (.list es)=>(∀e∈es,e.length=sz)∧c=es.length∧news=es.flatten.map .d
 |.ref _ _ off n=>c=n∧(off+n)*sz≤C.length∧news=(C.drop (off*sz)).take (n*sz)
 |_=>False
def Jf(C:List AV)(off a c sz byt:Nat)(news d:List AV)(b:Nat):Prop:=(off+a)*sz=C.length∧C.drop (off*sz)++news=d∧a+c=b∧b*byt≤140737488355328
def Lk(c byt:Nat):Prop:=c*byt≤140737488355328
def IT(r:Ren)(k:Ad):Prop:=k.1=0∧r.no (r.κ k)
def EC(r:Ren)(k:Ad)(vs:List AV):Prop:=(An r vs).all (AV.low (r.κ k).1)=true
def FR(r:Ren)(k:Ad)(vs:List AV)(A:Prop):Prop:=
 match Nat.beq k.1 1 with
 |true=>A
 |false=>IT r k∧EC r k vs∧A
def GL(C:List AV)(off:Nat)(vs a:List AV):Prop:=off+vs.length≤C.length∧C.take off++vs++C.drop (off+vs.length)=a
def GS(n d:Nat)(e:TypeId)(sz:Nat)(cells:List AV)(x:Nat→AV)(K:St→AT→Prop)(τ:St)(a:AT):Prop:=
 match Nat.ble (d+1) n with
 |true=>K ⟨upd τ.s d (x ((τ.H (1,d)).g+1)),updH τ.H (1,d) ⟨(τ.H (1,d)).g+1,true,e,sz,cells⟩⟩ a
 |false=>False
def cellsOf(H:Hp):AV→List AV
 |.ref k g _ _=>match Br H k g with|true=>(H k).cells|false=>[]
 |_=>[]
def SN(H:Hp)(sz:Nat):AV→Bool
 |.ref k g _ _=>Br H k g&&Nat.beq (H k).sz sz
 |_=>true
def XS(T:Nat→Option TI)(r:Ren)(n d:Nat)(t:TypeId)(x y:AV)(a:AT)(K:St→AT→Prop)(τ:St):Prop:=
 match T t with
 |some i=>match i.elm with
  |some (e,sz)=>match T e,Nat.ble 1 sz,SN τ.H sz y with
   |some j,true,true=>(match j.byt,j.zer,x,a with
    |some byt,some _,.e0,.nat c (.cs news b)=>D3 sz (cellsOf τ.H y) y c news∧Lk c byt∧GS n d e sz news (fun g=>.ref (1,d) g 0 c) K τ b
    |some byt,some _,.ref k q off l,.nat c (.cs news (.cs f (.nat h b)))=>(match Br τ.H k q,Nat.beq (τ.H k).sz sz,rU (τ.H k).e e,Nat.ble (d+1) n with
     |true,true,true,true=>D3 sz (cellsOf τ.H y) y c news∧Jf (τ.H k).cells off l c sz byt news f h∧FR r k news (K ⟨upd τ.s d (.ref k (q+1) 0 h),updH τ.H k ⟨q+1,true,e,sz,f⟩⟩ b)
     |_,_,_,_=>False)
    |_,_,_,_=>False)
   |_,_,_=>False
  |none=>False
 |none=>False
def MG(r:Ren)(n:Nat)(i:TI)(x:AV)(vs:Option (List AV))(a:AT)(K:St→AT→Prop)(τ:St):Prop:=
 match x,vs with
 |.ptr k q off,some vs=>match Br τ.H k q,Nat.beq vs.length i.siz,Nat.ble 1 vs.length with
  |true,true,true=>(match a with
   |.go b=>(match Nat.ble (off+vs.length) (τ.H k).cells.length with
    |true=>FR r k vs (K ⟨τ.s,updH τ.H k ⟨q,true,(τ.H k).e,(τ.H k).sz,(τ.H k).cells.take off++vs++(τ.H k).cells.drop (off+vs.length)⟩⟩ b)
    |false=>False)
   |.cs c b=>GL (τ.H k).cells off vs c∧FR r k vs (K ⟨τ.s,updH τ.H k ⟨q,true,(τ.H k).e,(τ.H k).sz,c⟩⟩ b)
   |_=>False)
  |_,_,_=>False
 |_,_=>False
def kz(c a:Int)(byt m:Nat)(z C:List AV):Prop:=c=(m:Int)∧c≤a∧(byt:Int)*a≤140737488355328∧(List.replicate m z).flatten=C
def Ii(P:Program)(T:Nat→Option TI)(l n:Nat)(r:Ren)(o:Oper)(a:AT)(K:St→AT→Prop)(τ:St):Prop:=
 match o.op with
 |.alloc t=>match o.dst,T t with
  |some d,some i=>(match i.zer with|some (z::f)=>GS n d t (f.length+1) (z::f) (fun g=>.ptr (1,d) g 0) K τ a|_=>False)
  |_,_=>False
 |.box t x=>match o.dst,Ch (ev τ.s x),Hq (ev τ.s x)with
  |some d,some (z::f),true=>GS n d t (f.length+1) (z::f) (fun g=>.ptr (1,d) g 0) K τ a
  |_,_,_=>False
 |.store t p x=>match o.dst,T t,Hq (ev τ.s x)with
  |none,some i,true=>MG r n i (ev τ.s p) (Ch (ev τ.s x)) a K τ
  |_,_,_=>False
 |.buildSlice t len parts=>match o.dst,T t with
  |some d,some i=>(match i.elm with
   |some (e,sz)=>(match Nat.ble 1 sz,len with
    |true,0=>(match parts.toList with|[]=>D6 n d K τ .e0 a|_=>False)
    |true,len+1=>(match T e,Nat.ble ((len+1)*sz) 16777216 with
     |some j,true=>(match j.zer with
      |some z=>(match Nat.beq z.length sz,EB sz 0 (parts.toList.map fun p=>(p.1,ev τ.s p.2))with
       |true,some es=>(match Nat.beq es.length (len+1)with|true=>D6 n d K τ (.d (.list es)) a|false=>False)
       |_,_=>False)
      |none=>False)
     |_,_=>False)
    |_,_=>False)
   |none=>False)
  |_,_=>False
 |.makeSlice t x y=>match o.dst,T t,ev τ.s x,ev τ.s y,a with
  |some d,some i,.d (.int _ c),.d (.int _ h),.nat m (.cs C b)=>(match i.elm with
   |some (e,sz)=>(match T e,Nat.ble 1 sz with
    |some j,true=>(match j.zer,j.byt with
     |some z,some byt=>(match Nat.beq z.length sz with
      |true=>kz c h byt m z C∧GS n d e sz C (fun g=>.ref (1,d) g 0 m) K τ b
      |false=>False)
     |_,_=>False)
    |_,_=>False)
   |none=>False)
  |_,_,_,_,_=>False
 |.call c=>match c.callee with
  |.builtin .append=>(match o.dst,c.args.toList,c.argTypes.toList with
   |some d,[x,y],[t,k]=>(match Nat.beq t k with|true=>XS T r n d t (ev τ.s x) (ev τ.s y) a K τ|false=>False)
   |_,_,_=>False)
  |_=>(match o.dst with|some d=>pV P T l r τ o.op none a (D6 n d K τ)|none=>False)
 |_=>match o.dst with|some d=>pV P T l r τ o.op none a (D6 n d K τ)|none=>False
def Ox(n:Nat)(K:St→AT→Prop)(s:Nat→AV)(H:Hp)(v:AV)(b:AT):Option Nat→Prop
 |some d=>match Nat.ble (d+1) n with|true=>K ⟨upd s d v,H⟩ b|false=>False
 |none=>K ⟨s,H⟩ b
def pQ(T:Nat→Option TI)(r:Ren)(n:Nat)(d:Option Nat)(t l:Nat)(x y:AV)(a:AT)(K:St→AT→Prop)(τ:St):Prop:=
 match T t,T l with
 |some i,some h=>match i.elm,h.elm with
  |some (e,sz),some (e',f)=>match Nat.beq e e',Nat.beq sz f,T e,Nat.ble 1 sz,SN τ.H sz y with
   |true,true,some j,true,true=>(match j.zer,x,a with
    |some _,.ref k q off cn,.nat c (.cs news (.cs g b))=>(match Br τ.H k q,Nat.beq (τ.H k).sz sz with
     |true,true=>D3 sz (cellsOf τ.H y) y c news∧c≤cn∧GL (τ.H k).cells (off*sz) news g∧FR r k news (Ox n K τ.s (updH τ.H k ⟨q,true,(τ.H k).e,(τ.H k).sz,g⟩) (.d (.int .i64 c)) b d)
     |_,_=>False)
    |_,_,_=>False)
   |_,_,_,_,_=>False
  |_,_=>False
 |_,_=>False
def XM(C:List AV)(off cn sz:Nat)(z a:List AV):Prop:=(off+cn)*sz≤C.length∧C.take (off*sz)++(List.replicate cn z).flatten++C.drop ((off+cn)*sz)=a
def yB(T:Nat→Option TI)(r:Ren)(t:Nat)(x:AV)(a:AT)(K:St→AT→Prop)(τ:St):Prop:=
 match T t with
 |some i=>match i.elm with
  |some (e,sz)=>match T e,Nat.ble 1 sz with
   |some j,true=>(match j.zer,x,a with
    |some z,.ref k q off cn,.cs c b=>(match Br τ.H k q,Nat.beq (τ.H k).sz sz,Nat.beq z.length sz with
     |true,true,true=>XM (τ.H k).cells off cn sz z c∧FR r k z (K ⟨τ.s,updH τ.H k ⟨q,true,(τ.H k).e,(τ.H k).sz,c⟩⟩ b)
     |_,_,_=>False)
    |_,_,_=>False)
   |_,_=>False
  |none=>False
 |none=>False
def Hw(P:Program)(T:Nat→Option TI)(l n:Nat)(r:Ren)(o:Oper)(a:AT)(K:St→AT→Prop)(τ:St):Prop:=
 match o.op with
 |.call c=>(match c.callee with
  |.builtin .copy=>(match c.args.toList,c.argTypes.toList with|[x,y],[t,b]=>pQ T r n o.dst t b (ev τ.s x) (ev τ.s y) a K τ|_,_=>False)
  |.builtin .clear=>(match c.args.toList,c.argTypes.toList,o.dst with|[x],[t],none=>yB T r t (ev τ.s x) a K τ|_,_,_=>False)
  |_=>Ii P T l n r o a K τ)
 |_=>Ii P T l n r o a K τ
def yc(T:Nat→Option TI)(n:Nat)(b:Option Nat)(t len:Nat)(vs:List (Nat×AV))(a:AT)(K:St→AT→Prop)(τ:St):Prop:=
 match b,T t with
 |some d,some i=>(match i.elm with
  |some (e,sz)=>(match T e,Nat.ble 1 sz,Nat.ble ((len+1)*sz) 16777216 with
   |some j,true,true=>(match j.zer with
    |some z=>(match Nat.beq z.length sz,B0 (fun i=>some (i*sz,sz)) (List.replicate (len+1) z).flatten vs,vs.all (fun p=>Hq p.2)with
     |true,some cs,true=>(match z.all AV.flat with|true=>GS n d e sz cs (fun g=>.ref (1,d) g 0 (len+1)) K τ a|false=>False)
     |_,_,_=>False)
    |none=>False)
   |_,_,_=>False)
  |none=>False)
 |_,_=>False
def GY(P:Program)(T:Nat→Option TI)(l n:Nat)(r:Ren)(o:Oper)(a:AT)(K:St→AT→Prop)(τ:St):Prop:=
 match o.op with
 |.buildSlice t (len+1) parts=>(match a with
  |.go b=>yc T n o.dst t len (parts.toList.map fun p=>(p.1,ev τ.s p.2)) b K τ
  |.sep b=>Hw P T l n r o b K τ
  |a=>Hw P T l n r o a K τ)
 |_=>Hw P T l n r o a K τ
def M3(n d:Nat)(e:EK)(x:Nat→AV)(K:St→AT→Prop)(τ:St)(a:AT):Prop:=
 match Nat.ble (d+1) n with
 |true=>K ⟨upd τ.s d (x ((τ.H (1,d)).g+1)),updH τ.H (1,d) ⟨(τ.H (1,d)).g+1,true,e,0,[]⟩⟩ a
 |false=>False
def td(s:Nat→AV):Option Operand→Bool
 |none=>true
 |some x=>match ev s x with|.d (.int _ _)=>true|_=>false
def rO(s:ByteArray)(ds:List D)(es a:List (List D)):Prop:=CG s ds es=a
def sZ(s:ByteArray)(es a:List (List D)):Prop:=CI s es=a
def sd(rest:List (List D))(i:Nat)(e:List D)(es:List (List D)):Prop:=rest[i]?=some e∧rest.eraseIdx i=es
def KP(T:Nat→Option TI)(r:Ren)(d:Option Nat)(t:Nat)(x y z:AV)(a:AT)(K:St→AT→Prop)(τ:St):Prop:=
 match d,T t,x,y with
 |none,some i,.mp k g,.d (.str s)=>(match i.mp,Br τ.H k g,(τ.H k).e with
  |some (q,_),true,.m e es=>(match Ky q e,H3 q z,a with
   |true,some ds,.ents c b=>rO s ds es c∧FR r k [] (K ⟨τ.s,updH τ.H k ⟨g,true,.m q c,(τ.H k).sz,(τ.H k).cells⟩⟩ b)
   |_,_,_=>False)
  |_,_,_=>False)
 |_,_,_,_=>False
def zG(T:Nat→Option TI)(r:Ren)(d:Option Nat)(t:Nat)(x y:AV)(a:AT)(K:St→AT→Prop)(τ:St):Prop:=
 match d,T t,x,y with
 |none,some i,.mp k g,.d (.str s)=>(match i.mp,Br τ.H k g,(τ.H k).e with
  |some (q,_),true,.m e es=>(match Ky q e,a with
   |true,.ents c b=>sZ s es c∧FR r k [] (K ⟨τ.s,updH τ.H k ⟨g,true,.m q c,(τ.H k).sz,(τ.H k).cells⟩⟩ b)
   |_,_=>False)
  |_,_,_=>False)
 |_,_,_,_=>False
def zI(n d:Nat)(k:Ad)(g:Nat)(q:Bool)(rest:List (List D))(a:AT)(K:St→AT→Prop)(τ:St):Prop:=
 match Nat.ble (d+1) n,a with
 |true,.all a0 f=>(rest=[]→K ⟨upd τ.s d (.tup [.d (.bool false)]),τ.H⟩ a0)∧∀i,i<rest.length→(match f i with
  |.ds (.str s::ds) (.ents es b)=>sd rest i (.str s::ds) es∧K ⟨upd τ.s d (.tup [.d (.bool true),.d (.str s),FO q ds]),updH τ.H k ⟨g,true,.i q es (some (.str s::ds)),(τ.H k).sz,(τ.H k).cells⟩⟩ b
  |_=>False)
 |_,_=>False
def zH(n d:Nat)(k:Ad)(g:Nat)(z:ByteArray)(p:Nat)(a:AT)(K:St→AT→Prop)(τ:St):Prop:=
 match Nat.ble (d+1) n,a with
 |true,.br a1 a0=>(decide (p<z.size)=true→K ⟨upd τ.s d (.tup [.d (.bool true),.d (.int .i64 (p:Int)),.d (.int .i32 (Nm z p))]),updH τ.H k ⟨g,true,.s z (p+E3 z p),(τ.H k).sz,(τ.H k).cells⟩⟩ a1)∧(decide (p<z.size)=false→K ⟨upd τ.s d (.tup [.d (.bool false)]),τ.H⟩ a0)
 |_,_=>False
def Gt(P:Program)(T:Nat→Option TI)(l n:Nat)(r:Ren)(o:Oper)(a:AT)(K:St→AT→Prop)(τ:St):Prop:=
 match o.op with
 |.makeMap t b=>(match o.dst,T t,td τ.s b with
  |some d,some i,true=>(match i.mp with|some (q,_)=>M3 n d (.m q []) (fun g=>.mp (1,d) g) K τ a|none=>False)
  |_,_,_=>False)
 |.mapUpdate t x y z=>KP T r o.dst t (ev τ.s x) (ev τ.s y) (ev τ.s z) a K τ
 |.insert t x y z=>KP T r o.dst t (ev τ.s x) (ev τ.s y) (ev τ.s z) a K τ
 |.range t x=>(match o.dst,T t,ev τ.s x with
  |some d,some i,.d (.map q es)=>(match i.mp with|some _=>M3 n d (.i q es none) (fun g=>.ptr (1,d) g 0) K τ a|none=>False)
  |some d,some i,.d (.str z)=>(match Nat.beq i.kin 2 with|true=>M3 n d (.s z 0) (fun g=>.ptr (1,d) g 0) K τ a|false=>False)
  |_,_,_=>False)
 |.next x false=>(match o.dst,ev τ.s x with
  |some d,.ptr k g 0=>(match Nat.beq k.1 1,Br τ.H k g,(τ.H k).e with
   |true,true,.i q rest _=>zI n d k g q rest a K τ
   |_,_,_=>False)
  |_,_=>False)
 |.next x true=>(match o.dst,ev τ.s x with
  |some d,.ptr k g 0=>(match Nat.beq k.1 1,Br τ.H k g,(τ.H k).e with
   |true,true,.s z p=>zH n d k g z p a K τ
   |_,_,_=>False)
  |_,_=>False)
 |.entry x=>(match o.dst,ev τ.s x with
  |some d,.ptr k g 0=>(match Nat.beq k.1 1,Br τ.H k g,(τ.H k).e,Nat.ble (d+1) n with
   |true,true,.i q rest (some (.str s::ds)),true=>K ⟨upd τ.s d (.tup [.d (.str s),FO q ds]),updH τ.H k ⟨g,true,.i q rest none,(τ.H k).sz,(τ.H k).cells⟩⟩ a
   |_,_,_,_=>False)
  |_,_=>False)
 |.call c=>(match c.callee with
  |.builtin .delete=>(match c.args.toList,c.argTypes.toList with|[x,y],[t,_]=>zG T r o.dst t (ev τ.s x) (ev τ.s y) a K τ|_,_=>False)
  |_=>GY P T l n r o a K τ)
 |_=>GY P T l n r o a K τ
def CF(env:Bz):Option Nat→Bz
 |some d=>(d,[])::env
 |none=>env
def El(env:Bz):Option Nat→Bool
 |some d=>fresh d env
 |none=>true
def FC(P:Program)(T:Nat→Option TI)(l n:Nat)(r:Ren)(ds:List (Option Nat)):List Oper→Bz→AT→(St→Bz→AT→Prop)→St→Prop
 |[],env,a,K,τ=>K τ env a
 |o::rest,env,a,K,τ=>match o.guard with
  |none=>(match BN env [] o.op,El env o.dst with
   |true,true=>Gt P T l n r o a (fun τ' c=>FC P T l n r ds rest (CF env o.dst) c K τ') τ
   |_,_=>False)
  |some (i,b)=>(match Bh ds i,o.dst with
   |some (some d),some e=>(match Fs τ.s ((d,b)::lk env d),BN env ((d,b)::lk env d) o.op,fresh e env&&Kx e ((d,b)::lk env d),Nat.ble (e+1) n with
    |some g,true,true,true=>pV P T l r τ o.op (some g) a (fun v c=>FC P T l n r ds rest ((e,(d,b)::lk env d)::env) c K ⟨upd τ.s e v,τ.H⟩)
    |_,_,_,_=>False)
   |_,_=>False)
def XJ(P:Program)(T:Nat→Option TI)(l n:Nat)(r:Ren)(o:Oper)(a:AT)(K:St→AT→Prop)(τ:St):Prop:=
 match o.op,o.dst with
 |.buildSlice t (len+1) ps,some d=>pV P T l r τ (.buildSlice t (len+1) ps) none a (D6 n d K τ)
 |_,_=>Gt P T l n r o a K τ
def Fw(P:Program)(T:Nat→Option TI)(l n:Nat)(r:Ren)(ds:List (Option Nat)):List Oper→Bz→AT→(St→Bz→AT→Prop)→St→Prop
 |[],env,a,K,τ=>K τ env a
 |o::rest,env,a,K,τ=>match o.guard with
  |none=>(match BN env [] o.op,El env o.dst with
   |true,true=>XJ P T l n r o a (fun τ' c=>Fw P T l n r ds rest (CF env o.dst) c K τ') τ
   |_,_=>False)
  |some (i,b)=>(match Bh ds i,o.dst with
   |some (some d),some e=>(match Fs τ.s ((d,b)::lk env d),BN env ((d,b)::lk env d) o.op,fresh e env&&Kx e ((d,b)::lk env d),Nat.ble (e+1) n with
    |some g,true,true,true=>pV P T l r τ o.op (some g) a (fun v c=>Fw P T l n r ds rest ((e,(d,b)::lk env d)::env) c K ⟨upd τ.s e v,τ.H⟩)
    |_,_,_,_=>False)
   |_,_=>False)
section
variable {P:Program} {T:Nat→Option TI} {r:Ren} {l n outs:Nat} {B:Base} {env:Bz} {τ σ:St} {a:AT} {o:Oper}
theorem R.adopt{act:Act}{w:World}{d:Nat}{e:TypeId}{sz:Nat}{s:Nat→AV}{H:Hp}(h:R l n B ⟨s,H⟩ act w)(k:Ad)(P:k.1=l+1)(g:Nat)(M:(H k).g<g)(L:s d=.e0):R l n B ⟨upd s d (.ref k g 0 0),updH H k ⟨g,true,e,sz,[]⟩⟩ act w:=by
 obtain⟨m,S,o,N,u,D,hex⟩:=h.un
 have c:Ext (l+1) H m S w (updH H k ⟨g,true,e,sz,[]⟩) (A6 m k ⟨0,0,0⟩) S w:=by
  refine⟨fun _ h=>h,fun _ _=>rfl,fun q f=>?_,fun q f E hl=>?_,rfl,rfl,rfl,Ye _⟩
  ·by_cases a:q=k
   ·subst a;rw[AM];simp only;omega
   ·rw[AJ _ _ a];exact Ye _
  ·by_cases a:q=k
   ·subst a;rw[AM]at E;simp only at E;omega
   ·rw[AJ _ _ a]at hl⊢;rw[AU _ _ a];exact⟨hl,rfl,rfl⟩
 have t:Ok (l+1) (updH H k ⟨g,true,e,sz,[]⟩) (A6 m k ⟨0,0,0⟩) S w:=by
  refine⟨o.sub,fun q f hl b=>?_,fun q f hl b=>?_,fun q G f y hl r b j he=>?_,fun q f hl b=>?_,o.mp.upd (Ye _) k _ rfl (fun q e=>AU _ _ e) (fun _ h=>h) (fun _ h=>.inl h) (fun _ _=>rfl) (fun _ _ h _=>h)⟩
  ·by_cases a:q=k
   ·subst a;rw[AM]
   ·rw[AJ _ _ a]at hl⊢;rw[AU _ _ a]at b;exact o.empty q f hl b
  ·by_cases a:q=k
   ·subst a;rw[AY]at b;exact absurd rfl b
   ·rw[AJ _ _ a]at hl;rw[AU _ _ a]at b⊢;exact o.fresh q f hl b
  ·have p:q≠k:=by rintro rfl;rw[AY]at b;exact b rfl
   have A:G≠k:=by rintro rfl;rw[AY]at j;exact j rfl
   rw[AJ _ _ p]at hl;rw[AJ _ _ A]at r
   rw[AU _ _ p]at b he;rw[AU _ _ A]at j he
   exact o.inj q G f y hl r b j he
  ·have p:q≠k:=by rintro rfl;rw[AY]at b;exact b rfl
   rw[AJ _ _ p]at hl⊢;rw[AU _ _ p]at b⊢
   obtain⟨C,I,J,K,z⟩:=o.blk q f hl b
   exact⟨C,I,J,K,fun i x v hi F=>⟨(z i x v hi F).1,(z i x v hi F).2.ext c f⟩⟩
 refine⟨_,_,t,N,u,fun i=>?_,hex.trans (c.mono (by omega))⟩
 simp only[upd]
 by_cases hi:i=d
 ·subst hi
  rw[if_pos rfl]
  have:=D i
  rw[L]at this
  generalize act.tmps.getD i Go.undef=v at this⊢
  cases this with
  |e0 O=>
   have:=RepA.refL (w:=w) (S:=S) (H:=updH H k ⟨g,true,e,sz,[]⟩) (m:=A6 m k ⟨0,0,0⟩) (l:=l+1) k 0 0 O (by omega) (by rw[AM]) (by rw[AY];simp) (fun h=>by rw[AY]at h;simp at h)
   rw[AM,AY]at this
   exact this
 ·rw[if_neg hi]
  exact(D i).ext c (Ye _)
def HV(r:Ren)(outs:Nat)(k:Ad):Prop:=k.1=1∨(k.1=0∧k.2<outs∧r.no (r.κ k))
theorem RenOk.ne(a:RenOk r l outs){q k:Ad}(f:q.1=1∨(q.1=0∧q.2<outs))(e:k.1=1∨(k.1=0∧k.2<outs))(b:q≠k):r.κ q≠r.κ k:=fun he=>by
 obtain⟨i,j⟩:=q
 obtain⟨g,h⟩:=k
 simp only at f e
 rcases f with rfl|⟨rfl,c⟩<;>rcases e with rfl|⟨rfl,d⟩
 ·rw[a.own,a.own]at he;simp at he;exact b (by rw[he])
 ·rw[a.own]at he;have:=a.out _ d;rw[←he]at this;simp at this;omega
 ·rw[a.own]at he;have:=a.out _ c;rw[he]at this;simp at this;omega
 ·exact b (by rw[a.inj _ _ c d he])
theorem HV.lk{k:Ad}(h:HV r outs k):k.1=1∨(k.1=0∧k.2<outs):=by
 rcases h with h|⟨a,b,_⟩
 ·grind
 grind
theorem RG.updK(j:RenOk r l outs)(h:RG r l outs env τ σ)(k:Ad)(b m:Blk)(p:b.live=true→m=AK r k b)(o:m.g=r.γ k+b.g)(g:HV r outs k):
  RG r l outs env ⟨τ.s,Go.Eng.updH τ.H k b⟩ ⟨σ.s,Go.Eng.updH σ.H (r.κ k) m⟩:=by
 have f:=g.lk
 refine⟨h.s,fun q c=>?_,fun d=>?_,fun i hi=>?_,fun q c=>?_,fun q c s=>?_⟩
 ·simp only at c⊢
  by_cases e:q=k
  ·subst e;rw[AM]at c⊢;rw[AM];exact p c
  ·rw[AJ _ _ e]at c⊢;rw[AJ _ _ (j.ne (h.k _ c) f e)];exact h.h q c
 ·simp only
  by_cases a:((1,d):Ad)=k
  ·subst a;rw[AM,j.own,AM];exact o
  ·have n:((l+1,d):Ad)≠r.κ k:=by rw[←j.own d];exact j.ne (.inl rfl) f a
   rw[AJ _ _ a,AJ _ _ n]
   exact h.g d
 ·simp only
  by_cases a:((0,i):Ad)=k
  ·subst a;rw[AM,AM];exact o
  ·rw[AJ _ _ a,AJ _ _ (j.ne (.inr ⟨rfl,hi⟩) f a)]
   exact h.go i hi
 ·simp only at c
  by_cases e:q=k
  ·grind
  ·rw[AJ _ _ e]at c;exact h.k q c
 ·simp only
  have n:q≠r.κ k:=by
   rintro rfl
   rcases g with g|⟨_,_,g⟩
   ·obtain⟨t,u⟩:=k
    simp only at g
    subst g
    rw[j.own]at c
    grind
   grind
  rw[AJ _ _ n]
  exact h.o q c s
theorem RG.updH(c:RenOk r l outs)(h:RG r l outs env τ σ)(k:Ad)(b:Blk)(d:b.live=true)(a:HV r outs k):
  RG r l outs env ⟨τ.s,Go.Eng.updH τ.H k b⟩ ⟨σ.s,Go.Eng.updH σ.H (r.κ k) (AK r k b)⟩:=RG.updK c h k b _ (fun _=>rfl) rfl a
theorem J4(i:RenOk r l outs)(h:RG r l outs env τ σ){k:Ad}(hl:(τ.H k).live=true){vs:List AV}{A:Prop}(b:FR r k vs A):A∧HV r outs k∧((r.κ k).1=l+1∨(An r vs).all (AV.low (r.κ k).1)=true):=by
 unfold FR at b
 split at b
 ·rename_i a
  have a:=Ya a
  obtain⟨j,m⟩:=k
  simp only at a
  subst a
  exact⟨b,.inl rfl,.inl (by rw[i.own])⟩
 ·obtain⟨⟨d,e⟩,f,g⟩:=b
  rcases h.k k hl with c|⟨_,c⟩
  ·omega
  ·exact⟨g,.inr ⟨d,c,e⟩,.inr f⟩
theorem A5{s:Nat→AV}:Ct s []:=fun q a=>by cases a
theorem RG.put0(h:RG r l outs env τ σ){d:Nat}(a:fresh d env=true){v y:AV}(hy:y=ren r v):RG r l outs ((d,[])::env) ⟨upd τ.s d v,τ.H⟩ ⟨upd σ.s d y,σ.H⟩:=
 h.put a rfl (fun _=>hy) (fun b=>absurd A5 b)
def IG(r:Ren)(l outs:Nat)(env:Bz)(K:St→AT→Prop)(σ:St):Prop:=∃τ a,K τ a∧RG r l outs env τ σ
theorem JN(i:RenOk r l outs)(h:RG r l outs env τ σ){K:St→AT→Prop}{d:Nat}(m:fresh d env=true){e:TypeId}{sz:Nat}{cells:List AV}{x x':Nat→AV}(o:∀g,x' (r.γ (1,d)+g)=ren r (x g))(b:GS n d e sz cells x K τ a):
  Dr l n d e sz (An r cells) x' (IG r l outs ((d,[])::env) K) σ:=by
 unfold GS at b
 split at b
 ·rename_i f
  have f:=Yd f
  refine⟨by omega,_,_,b,?_⟩
  have k:=h.put0 (v:=x ((τ.H (1,d)).g+1)) (y:=x' ((σ.H (l+1,d)).g+1)) m (by rw[h.g,Yt];exact o _)
  have c:=RG.updH i k (1,d) ⟨(τ.H (1,d)).g+1,true,e,sz,cells⟩ rfl (.inl rfl)
  have j:AK r (1,d) ⟨(τ.H (1,d)).g+1,true,e,sz,cells⟩=⟨(σ.H (l+1,d)).g+1,true,e,sz,An r cells⟩:=by
   simp only[AK,h.g,Yt]
  rw[j,i.own]at c
  exact c
 grind
theorem Qg{K:St→AT→Prop}(h:RG r l outs env τ σ){d:Nat}(c:fresh d env=true){y:AV}(hy:KR r (D6 n d K τ) y):d<n∧IG r l outs ((d,[])::env) K ⟨upd σ.s d y,σ.H⟩:=by
 obtain⟨v,e,rfl,a⟩:=hy
 unfold D6 at a
 split at a
 ·rename_i b
  have b:=Yd b
  exact⟨by omega,_,_,a,h.put0 c rfl⟩
 grind
section
variable {H:Hp} {K K':AV→Prop} {t:TypeId} {x y:AV}
theorem bn(a:∀y,K y→K' y)(h:DL P H t x K):DL P H t x K':=by
 unfold DL at h⊢
 split at h
 ·grind
 ·grind
 grind
theorem ZhJ{i:Nat}(a:∀y,K y→K' y)(h:DY P H t i x K):DY P H t i x K':=by
 unfold DY at h⊢
 grind
theorem Zod{i:Nat}(a:∀y,K y→K' y)(h:D0 P t i x K):D0 P t i x K':=by
 unfold D0 at h⊢
 split at h
 ·split at h
  ·grind
  grind
 grind
theorem ZhE(a:∀y,K y→K' y)(h:DA P H t x y K):DA P H t x y K':=by
 unfold DA at h⊢
 grind
theorem ZnA(a:∀y,K y→K' y)(h:Eo P t x y K):Eo P t x y K':=by
 unfold Eo at h⊢
 grind
theorem ww{neg:Bool}(a:∀y,K y→K' y)(h:Di H neg x K):Di H neg x K':=by
 unfold Di at h⊢
 grind
theorem ZxD{op:BinOp}{b:Bool}(a:∀y,K y→K' y)(h:B8 P H op t b x y K):B8 P H op t b x y K':=by
 unfold B8 at h⊢
 split at h
 ·exact⟨h.1,vG a h.2⟩
 ·exact vr a h
 ·grind
 ·unfold FI at h⊢
  split at h
  ·split at h
   ·grind
   grind
  grind
 ·refine⟨h.1,h.2.1,?_⟩
  replace h:=h.2.2
  split at h
  ·exact ww a h
  ·exact ww a h
  grind
 grind
theorem ZFS{op:UnOp}(a:∀y,K y→K' y)(h:DT op x K):DT op x K':=by
 unfold DT at h⊢
 grind
theorem ZqT{u:TypeId}(a:∀y,K y→K' y)(h:D1 P t u x K):D1 P t u x K':=by
 unfold D1 at h⊢
 grind
theorem Zn0{lo hi:Option AV}{a:Bool}(b:∀y,K y→K' y)(h:DH P H t x lo hi a K):DH P H t x lo hi a K':=by
 unfold DH at h⊢
 grind
theorem ZvX(a:∀y,K y→K' y)(h:C8 P H t x K):C8 P H t x K':=by
 unfold C8 at h⊢
 grind
theorem Zoa{ps:List (Nat×AV)}(a:∀y,K y→K' y)(h:Ek P t ps K):Ek P t ps K':=by
 unfold Ek at h⊢
 grind
theorem Qw{op:Op}{ρ:Operand→AV}(d:∀y,K y→K' y)(h:A4 P H op ρ K):A4 P H op ρ K':=by
 cases op<;>simp only[A4]at h⊢<;>try exact h.elim
 case move x=>exact d _ h
 case assign x=>exact d _ h
 case pick c a b=>
  split at h
  ·grind
  ·grind
 case load=>exact bn d h
 case fieldAddr=>exact ZhJ d h
 case field=>exact Zod d h
 case indexAddr=>exact ZhE d h
 case index=>exact ZnA d h
 case extract=>
  split at h
  ·grind
  ·grind
 case makeInterface=>
  refine⟨h.1,?_⟩
  replace h:=h.2
  repeat' split at h
  all_goals first|exact h.elim|exact d _ h
 case typeAssert=>
  refine⟨h.1,?_⟩
  replace h:=h.2
  repeat' split at h
  all_goals first|exact h.elim|exact⟨h.1,d _ h.2⟩
 case binOp=>exact ZxD d h
 case unOp=>exact ZFS d h
 case convert=>exact ZqT d h
 case nilCheck=>
  unfold G4 at h⊢
  split at h
  ·grind
  ·grind
  ·grind
 case makeFunc=>exact d _ h
 case slice=>exact Zn0 d h
 case build=>exact Zoa d h
 case lookup=>exact vi d h
 case call c=>
  split at h
  ·exact⟨h.1,ZvX d h.2⟩
  ·split at h
   ·unfold Dx at h⊢
    grind
   ·unfold Fy at h⊢
    grind
   grind
  ·grind
end
end
end Go.Eng
