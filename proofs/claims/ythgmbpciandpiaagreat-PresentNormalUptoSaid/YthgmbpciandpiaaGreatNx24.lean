import Derived.Test.YthgmbpciandpiaaGreatNx09
import Derived.Test.YthgmbpciandpiaaGreatRows
import Derived.WalkKit
import Derived.ProofKit
import Derived.OpenShut
import Derived.Carry
import Derived.Deep.DeepHandedRow
import Derived.Test.YthgmbpciandpiaaGreatNx10
import Derived.Test.YthgmbpciandpiaaGreatNx23
import Derived.Test.YthgmbpciandpiaaGreatNx00
namespace Go.Proofs.YthgmbpciandpiaaGreat
set_option linter.all false
open Go Go.Eng Go.ChangeShapes Go.WideShapes Go.ChangeAt Go.RowKit
theorem Zpb{H:Type}(b:List UInt8):Rows.uptoBulk (DataW.lit (H:=H) (.string b))=b.length+1:=by simp only[Rows.uptoBulk]
theorem Zqz{H:Type}(a b:List (DataW H)):Rows.uptoBulk (.slice a b)=Rows.uptoBulkAll a+Rows.uptoBulkAll b+1:=by simp only[Rows.uptoBulk]
theorem ZBF{H:Type}(a:List (DataW H)):Rows.uptoBulk (.agg a)=Rows.uptoBulkAll a+1:=by simp only[Rows.uptoBulk]
def Js(W:World)(ds:List D)(cs:List Value)(o:Nat):Prop:=∀(i:Nat) (d:D),ds[i]?=some d→∃c,cs[o+i]?=some c∧RepD W (· <W.heap.size) d c
def Ld(W:World)(ds:List D)(cs:List Value):Prop:=ds.length=cs.length∧Js W ds cs 0
theorem Js.app{W:World}{ds es:List D}{cs:List Value}{o:Nat}(h:Js W ds cs o)(k:Js W es cs (o+ds.length)):Js W (ds++es) cs o:=fun i d hi=>by
 rcases YK i ds.length with hl|hl
 ·rw[Ys hl]at hi;exact h i d hi
 ·rw[Yy hl]at hi
  obtain⟨c,a,b⟩:=k _ d hi
  grind
theorem Js.nil{W:World}{cs:List Value}{o:Nat}:Js W [] cs o:=fun i d h=>by simp at h
theorem Ld.at{W:World}{ds:List D}{cs:List Value}{o k:Nat}(h:Ld W ds ((cs.drop o).take k)):Js W ds cs o:=fun i d hi=>by
 obtain⟨c,a,b⟩:=h.2 i d hi
 grind
def rk(k:IntKind)(n:Int):Nat:=if Lit.wf (.int k n)=true then 0 else 1000000000000
theorem zw{k:IntKind}{n:Int}(h:rk k n≤1048576):k.min≤n∧n≤k.max:=by
 unfold rk at h
 split at h
 ·rename_i a
  unfold Lit.wf at a
  rw[Yc]at a
  exact⟨DT a.1,DT a.2⟩
 ·omega
mutual
def bk:D→Nat
 |.int k n=>rk k n
 |.bool _=>0
 |.str s=>s.size
 |.list es=>AU es
 |.map _ es=>AU es
def As:List D→Nat
 |[]=>0
 |d::l=>bk d+As l
def AU:List (List D)→Nat
 |[]=>0
 |e::l=>As e+1+AU l
end
theorem MK:∀a b:List D,As (a++b)=As a+As b
 |[],b=>by rw[Hu,As,YN]
 |d::a,b=>by rw[IB,As,As,MK a b,YG]
theorem kA(d:D):As [d]=bk d:=by rw[As,As,DV]
theorem Cz{α:Type}{e:α→List D}:∀l:List α,l.length≤AU (l.map e)
 |[]=>DE _
 |x::l=>by have:=Cz (e:=e) l;rw[YZ,AU,DB];omega
theorem CQ{α:Type}{e:α→List D}{x:α}:∀{l:List α},x∈l→As (e x)+1≤AU (l.map e)
 |y::l,h=>by
  rw[YZ,AU]
  cases YI.1 h with
  |inl h=>subst h;omega
  |inr h=>have:=CQ (e:=e) h;omega
section
variable {H:Type} (enc:TypeId×Value→H) (P:Program) (W:World)
def Ck{α:Type}(n:Nat)(t:TypeId)(e:α→List D):Prop:=
 ∀cs x,DataW.trod enc P W 0 (fun _=>true) true n t cs=some x→∃v:α,Ld W (e v) cs∧As (e v)+1≤Rows.uptoBulk x.1
end
section
variable {H:Type} {enc:TypeId×Value→H} {P:Program} {W:World} {n:Nat} {t:TypeId}
theorem jT(d:DataW H):1≤Rows.uptoBulk d:=by cases d<;>(try (rename_i l;cases l))<;>simp[Rows.uptoBulk]
theorem Pa{d:D}{c:Value}(h:RepD W (· <W.heap.size) d c):Ld W [d] [c]:=⟨rfl,fun i d' hi=>by
 cases i with
 |zero=>cases hi;exact⟨c,rfl,h⟩
 |succ i=>simp at hi⟩
theorem EJ{k:IntKind}(a:P.underlying t=some (.int k)):Ck enc P W n t (fun v:Int=>[.int k v]):=fun cs x c=>by
 obtain⟨m,rfl,rfl,b⟩:=DataW.trod_int a c
 refine⟨m,Pa (.int _ _),?_⟩
 rw[kA,bk,rk,Yg b]
 exact jT _
theorem ZxV(a:P.underlying t=some .bool):Ck enc P W n t (fun v:Bool=>[.bool v]):=fun cs x b=>by
 obtain⟨m,rfl,rfl⟩:=DataW.trod_bool a b
 exact⟨m,Pa (.bool _),jT _⟩
theorem EG(a:P.underlying t=some .string):Ck enc P W n t (fun v:ByteArray=>[.str v]):=fun cs x b=>by
 obtain⟨m,rfl,rfl,_⟩:=DataW.trod_string a b
 refine⟨m,Pa (.str _),?_⟩
 rw[Zpb,kA]
 exact Yh _
theorem ww{α:Type}{e:α→List D}:∀(l:List α) (xs:List (DataW H×List MemPlace)),l.length=xs.length→(∀(i:Nat) (v:α),l[i]?=some v→∃y:DataW H×List MemPlace,xs[i]?=some y∧As (e v)+1≤Rows.uptoBulk y.1)→AU (l.map e)≤Rows.uptoBulkAll (xs.map (·.1))
 |[],_,_,_=>DE _
 |x::l,[],h,_=>by cases h
 |x::l,y::xs,h,k=>by
  have:=ww l xs (N2 h) (fun i v hi=>k (i+1) v hi)
  obtain⟨c,a,b⟩:=k 0 x rfl
  cases a
  rw[YZ,YZ,AU]
  simp only[Rows.uptoBulkAll]
  omega
theorem Zto{α:Type}{Q:Nat→α→Prop}:∀(len:Nat),(∀i,i<len→∃v,Q i v)→∃l:List α,l.length=len∧∀i v,l[i]?=some v→Q i v
 |0,_=>⟨[],rfl,fun i v h=>by simp at h⟩
 |len+1,h=>by
  obtain⟨l,a,b⟩:=Zto len (fun i hi=>h i (by omega))
  obtain⟨v,c⟩:=h len (by omega)
  refine⟨l++[v],by simp[a],fun i w hi=>?_⟩
  grind
theorem Di{α:Type}{e:TypeId}{b:α→List D}{sz:Nat}(V:P.underlying t=some (.slice e))(E:P.cellsOf e=sz)(U:sz≠0)(hl:∀x,(b x).length=sz)(h:∀m,m<n→Ck enc P W m e b):
  Ck enc P W n t (fun l:List α=>[.list (l.map b)]):=fun cs x X=>by
 rcases DataW.trod_slice V X with⟨rfl,rfl⟩|⟨a,len,cap,g,rest,m,rfl,rfl,rfl,Z,z,R,T,hi,_,_⟩
 ·exact⟨[],Pa .nil,jT _⟩
 ·have k:∀i,i<len→∃v:α,∃y f,g[i]?=some y∧W.cells? 0 (a.add (i*sz)) sz=some f∧Ld W (b v) f∧As (b v)+1≤Rows.uptoBulk y.1:=fun i B=>by
   have I:=hi i B
   rw[Ye (by omega),E]at I
   obtain⟨f,M,N⟩:=sA.1 I
   obtain⟨v,O,Q⟩:=h m (by omega) f _ N
   exact⟨v,_,f,Ye (by omega),M,O,Q⟩
  obtain⟨l,A,r⟩:=Zto len k
  have cell:∀(i j:Nat) (e':List D) (x:D),(l.map b)[i]?=some e'→e'[j]?=some x→∃c,W.cell? (a.add (i*sz+j))=some c∧RepD W (· <W.heap.size) x c:=fun i j e' x d o=>by
   rw[YV]at d
   cases s:l[i]? with
   |none=>rw[s]at d;cases d
   |some v=>
    rw[s]at d
    cases d
    obtain⟨y,f,p,q,F,G⟩:=r i v s
    obtain⟨c,H,J⟩:=F.2 j x o
    rw[YN]at H
    obtain⟨_,Y,K⟩:=World.cells?_some q
    have u:j<sz:=by
     rw[←hl v]
     rcases YK j (b v).length with h|h
     ·exact h
     ·rw[YR h]at o;cases o
    refine⟨c,?_,J⟩
    rw[←Go.Eng.add_add,K j u,H]
  refine⟨l,Pa ?_,?_⟩
  ·have hlen:(l.map b).length=len:=by simp[A]
   have:=RepD.list (w:=W) (S:=(· <W.heap.size)) (l.map b) a sz cap (fun i j=>(W.cell? (a.add (i*sz+j))).getD undef) (fun C=>by
     have L:0<len:=by
      rcases IG len with h|h
      ·exact absurd (IJ (hlen.trans h)) C
      ·exact h
     obtain⟨v,y,f,_,q,_⟩:=k 0 L
     have:=World.cells?_block q (by omega)
     rw[Hy]at this
     rw[←Go.Eng.block_add a 0];exact this)
    (by rw[hlen];exact z) (fun e' he=>by obtain⟨y,_,rfl⟩:=YX.1 he;exact hl y)
    (fun i j e' x d o=>by obtain⟨c,p,_⟩:=cell i j e' x d o;rw[p];rfl)
    (fun i j e' x d o=>by obtain⟨c,p,q⟩:=cell i j e' x d o;rw[p];exact q)
   rw[hlen]at this
   exact this
  ·rw[Zqz,kA,bk]
   have:=ww (e:=b) l g (by omega) (fun i v s=>by
    obtain⟨y,f,p,q,F,G⟩:=r i v s
    exact⟨y,p,G⟩)
   omega
def FB(xs:List (DataW H×List MemPlace))(i:Nat):Nat:=Rows.uptoBulkAll ((xs.drop i).map (·.1))
theorem Bv{xs:List (DataW H×List MemPlace)}{i:Nat}{a b:List D}(h:As a+1+FB xs (i+1)≤FB xs i)(k:As b≤FB xs (i+1)):As (a++b)≤FB xs i:=by
 rw[MK];omega
theorem EI{xs:List (DataW H×List MemPlace)}{i:Nat}{a:List D}(h:As a+1+FB xs (i+1)≤FB xs i):As a≤FB xs i:=by omega
theorem EL{xs:List (DataW H×List MemPlace)}{a:List D}(h:As a≤FB xs 0):As a+1≤Rows.uptoBulk (.agg (xs.map (·.1))):=by
 rw[ZBF];exact Nat.succ_le_succ h
theorem ZA1{α:Type}{e:α→List D}{m i:Nat}{c:TypeId}{a:List Value}{xs:List (DataW H×List MemPlace)}(h:Ck enc P W m c e)(b:DataW.trod enc P W 0 (fun _=>true) true m c a=xs[i]?)(hi:i<xs.length):
  ∃v,Ld W (e v) a∧As (e v)+1+FB xs (i+1)≤FB xs i:=by
 rw[Ye hi]at b
 obtain⟨v,d,f⟩:=h _ _ b
 refine⟨v,d,?_⟩
 unfold FB
 rw[IK hi,YZ]
 simp only[Rows.uptoBulkAll]
 omega
theorem rf{α:Type}{e:α→List D}{m i k:Nat}{b:TypeId}{a:List Value}{xs:List (DataW H×List MemPlace)}(h:Ck enc P W m b e)(c:DataW.trod enc P W 0 (fun _=>true) true m b a=xs[i]?)(d:xs.length=k)(hi:Nat.blt i k=true:=by kernel_rfl):
  ∃v,Ld W (e v) a∧As (e v)+1+FB xs (i+1)≤FB xs i:=ZA1 h c (by rw[d];exact Yi hi)
theorem lg{α:Type}{e e':α→List D}(he:∀x,e x=e' x)(h:Ck enc P W n t e'):Ck enc P W n t e:=fun cs x a=>by
 obtain⟨v,b,c⟩:=h cs x a
 grind
theorem kD{α:Type}{e:α→List D}{q:Array Field}{r:Reach}{b:Nat}{v:Value}{d:DataW H}{p:List MemPlace}(rd:∀n,Ck enc P W n t e)(w:P.underlying t=some (.struct q))(z:Value.okWide P W r b t v)
  (h:DataW.Trod enc P W 0 (fun _=>true) true t v d p):∃x:α,(∀m l,RepA W (· <W.heap.size) (fun _=>⟨0,false,0,0,[]⟩) m l (.agg ((e x).map .d)) v)∧As (e x)+1≤Rows.uptoBulk d:=by
 obtain⟨cs,rfl,_⟩:=okWide_struct w z
 obtain⟨n,u⟩:=h
 obtain⟨x,k,s⟩:=rd n _ _ u
 have hl:(e x).length=cs.size:=by rw[k.1];simp[Value.cells]
 have key:∀(i:Nat) (c:Value),cs[i]?=some c→∃d,(e x)[i]?=some d∧RepD W (· <W.heap.size) d c:=fun i c f=>by
  have g:i<(e x).length:=by
   grind
  obtain⟨j,a,o⟩:=k.2 i _ (Ye g)
  have:j=c:=by
   rw[YN]at a
   have:cs.toList[i]?=some j:=a
   grind
  grind
 refine⟨x,fun m l=>.agg _ _ (by rw[YE,hl]) (fun i c f=>?_) (fun i y c hy f=>?_),s⟩
 ·obtain⟨d,_,a⟩:=key i c f;exact a.one
 ·obtain⟨d,a,o⟩:=key i c f
  rw[YV,a]at hy
  cases hy
  exact .d _ _ o
theorem ZIt{k:IntKind}{r:Reach}{a:Nat}{v:Value}{d:DataW H}{p:List MemPlace}(b:P.underlying t=some (.int k))(c:Value.okWide P W r a t v):
  ∃x:Int,∀S Hp m l,RepA W S Hp m l (.d (.int k x)) v:=by
 obtain⟨x,rfl⟩:=okWide_int b c
 exact⟨x,fun _ _ _ _=>.d _ _ (.int _ _)⟩
theorem ZI4{r:Reach}{a:Nat}{v:Value}{d:DataW H}{p:List MemPlace}(e:P.underlying t=some .string)(g:Value.okWide P W r a t v)(h:DataW.Trod enc P W 0 (fun _=>true) true t v d p):
  ∃x:ByteArray,(∀S Hp m l,RepA W S Hp m l (.d (.str x)) v)∧x.size+1≤Rows.uptoBulk d:=by
 obtain⟨x,rfl⟩:=okWide_string e g
 obtain⟨n,f⟩:=h
 obtain⟨s,b,c,_⟩:=DataW.trod_string e f
 have b:x=s:=by simpa[Value.cells]using b
 subst b
 have c:d=.lit (.string x.data.toList):=congrArg Prod.fst c
 subst c
 refine⟨x,fun _ _ _ _=>.d _ _ (.str _),?_⟩
 rw[Zpb]
 exact Yh _
def si:Hp:=fun _=>⟨0,false,0,0,[]⟩
theorem ok0(m:Mu):Ok 0 si m (· <W.heap.size) W:=⟨fun _ h=>h,fun _ _ h=>(by cases h),fun _ _ h=>(by cases h),fun _ _ _ _ h=>(by cases h),fun _ _ h=>(by cases h),⟨fun _ _ h=>(by cases h),fun _ _ h=>(by cases h),fun _ _ _ _ h=>(by cases h)⟩⟩
def ZXA(w:World)(S:Nat→Prop)(Hp:Hp)(m:Mu)(l:Nat):List AV→List Value→Prop
 |[],[]=>True
 |x::xs,v::vs=>RepA w S Hp m l x v∧ZXA w S Hp m l xs vs
 |_,_=>False
theorem ZK9{w:World}{S:Nat→Prop}{Hp:Hp}{m:Mu}{l:Nat}{xs:List AV}{vs:List Value}(h:ZXA w S Hp m l xs vs):MJ w S Hp m l xs vs.toArray:=by
 suffices b:xs.length=vs.length∧∀(i:Nat) (x:AV) (v:Value),xs[i]?=some x→vs[i]?=some v→RepA w S Hp m l x v by
  exact⟨by simpa using b.1,fun i x v f e=>b.2 i x v f (by simpa using e)⟩
 induction xs generalizing vs with
 |nil=>cases vs with
  |nil=>exact⟨rfl,fun i x v h=>by simp at h⟩
  |cons _ _=>exact h.elim
 |cons x xs g=>cases vs with
  |nil=>exact h.elim
  |cons v vs=>
   obtain⟨c,d⟩:=g h.2
   refine⟨by simp[c],fun i y u hy a=>?_⟩
   cases i with
   |zero=>simp at hy a;subst hy;subst a;exact h.1
   |succ i=>exact d i y u (by simpa using hy) (by simpa using a)
theorem Zsd{f:Func}{s:ChangeSpec}{n:World}{args:Array Value}{ds z:List (DataW H)}{e:List MemPlace}{u:TypeId}(B:DataW.Whole enc P f.params.toList s.vars false W args.toList ds z e)(c:s.vars=[])
  (k:laidOutB P=true) (y:∀t∈f.params.toList,P.readableRec t=true∧t<P.types.size) (g:f.resultTypes.toList=[u]) (K:P.underlying u=some .bool)
  (j:s.fn H (ds++z)={results:=[.lit (.bool true)],args:=ds }) (m:Below W.heap.size W n):s.post enc P f false true false false W args (.bool true) n:=by
 obtain⟨p,q,F,A,rfl,G,I⟩:=id B
 rw[c]at A
 obtain⟨rfl,rfl⟩:=trodVars_none A
 refine⟨ds,[],p++[],[],p,[],B,?_,?_,?_,?_,fun h=>by cases h⟩
 ·rw[j,g]
  have:(Value.bool true).resultList f.resultTypes.size=[.bool true]:=by
   have:f.resultTypes.size=1:=by rw[←Y0,g];rfl
   rw[this];rfl
  rw[this]
  exact trodAll_cons_mk (shut_bool K _) trodAll_mk0
 ·rw[j]
  have key:∀(l:List TypeId) (vs:List Value) (es:List (DataW H)) (ps:List MemPlace),(∀t∈l,P.readableRec t=true∧t<P.types.size)→DataW.TrodAll enc P W 0 (fun _=>true) true l vs es ps→
    DataW.TrodAll enc P n 0 (fun b=>decide (b<W.heap.size)) true l vs es ps:=by
   intro l
   induction l with
   |nil=>intro vs es ps _ h;obtain⟨rfl,rfl,rfl⟩:=trodAll_nil h;exact trodAll_mk0
   |cons t l M=>
    intro vs es ps w h
    have r:=DataW.TrodAll.lt h
    obtain⟨v,N,d,C,a,b,rfl,rfl,rfl,D,E⟩:=trodAll_cons h
    exact trodAll_cons_mk (Below.trod k (w t (by simp)).1 (w t (by simp)).2 D m (fun x L=>r x (JQ _ L))) (M _ _ _ (fun t J=>w t (by simp[J])) E)
  exact key _ _ _ _ y F
 ·rw[c,j];exact rfl
 ·refine⟨m.os,m.output,fun i hi=>?_⟩
  rw[m.block i hi]
  cases W.heap[i]? with
  |none=>rfl
  |some o=>cases o<;>simp
end
end Go.Proofs.YthgmbpciandpiaaGreat
namespace Go.Proofs.YthgmbpciandpiaaGreat
set_option linter.all false
open Go Go.Eng
section
variable {H:Type} {enc:TypeId×Value→H} {W:World}
set_option maxRecDepth 100000
theorem ZQ2(n:Nat):Ck enc Tryz.prog W n 87 A0:=fun cs x h=>by
 obtain⟨xs,m,rfl,rfl,c,a,b⟩:=DataW.trod_struct Tryz.underlying87 h
 obtain⟨v0,i,d⟩:=rf (EJ Tryz.underlying3) (b 0 _ rfl) a
 obtain⟨o,j,e⟩:=rf (EJ Tryz.underlying3) (b 1 _ rfl) a
 obtain⟨v2,k,f⟩:=rf (EJ Tryz.underlying27) (b 2 _ rfl) a
 obtain⟨v3,l,g⟩:=rf (EG Tryz.underlying9) (b 3 _ rfl) a
 have q:=EL (Bv d (Bv e (Bv f (EI g))))
 exact⟨.mk v0 o v2 v3,⟨by rw[c];kernel_rfl,(i.at.app (j.at.app (k.at.app l.at)))⟩,q⟩
theorem ZC9(n:Nat)(h:∀k,k<n→Ck enc Tryz.prog W k 33 Ag):Ck enc Tryz.prog W n 85 Dp:=fun cs x f=>by
 obtain⟨xs,m,rfl,rfl,b,a,c⟩:=DataW.trod_struct Tryz.underlying85 f
 obtain⟨v0,g,d⟩:=rf (h m (by omega)) (c 0 _ rfl) a
 obtain⟨j,i,e⟩:=rf (h m (by omega)) (c 1 _ rfl) a
 have q:=EL (Bv d (EI e))
 exact⟨.mk v0 j,⟨by rw[b];kernel_rfl,(g.at.app i.at)⟩,q⟩
theorem ZyF(n:Nat)(h:∀k,k<n→Ck enc Tryz.prog W k 33 Ag):Ck enc Tryz.prog W n 65 BW:=fun cs x f=>by
 obtain⟨xs,m,rfl,rfl,b,a,c⟩:=DataW.trod_struct Tryz.underlying65 f
 obtain⟨v0,g,d⟩:=rf (EJ Tryz.underlying3) (c 0 _ rfl) a
 obtain⟨j,i,e⟩:=rf (h m (by omega)) (c 1 _ rfl) a
 have q:=EL (Bv d (EI e))
 exact⟨.mk v0 j,⟨by rw[b];kernel_rfl,(g.at.app i.at)⟩,q⟩
theorem WZ(n:Nat):Ck enc Tryz.prog W n 33 Ag:=by
 induction n using Nat.strongRecOn with
 |ind n e=>
 intro cs x s
 obtain⟨xs,m,rfl,rfl,c,a,b⟩:=DataW.trod_struct Tryz.underlying33 s
 obtain⟨v0,t,f⟩:=rf (EJ Tryz.underlying3) (b 0 _ rfl) a
 obtain⟨B,u,g⟩:=rf (EJ Tryz.underlying27) (b 1 _ rfl) a
 obtain⟨v2,v,h⟩:=rf (EG Tryz.underlying9) (b 2 _ rfl) a
 obtain⟨v3,w,i⟩:=rf (Di Tryz.underlying28 (by kernel_rfl:Tryz.prog.cellsOf 33=7) (by decide) (fun x=>by rw[Gk];rfl) (fun k d=>(lg Gk (e k (by omega))))) (b 3 _ rfl) a
 obtain⟨v4,y,l⟩:=rf (Di Tryz.underlying29 (by kernel_rfl:Tryz.prog.cellsOf 85=14) (by decide) (fun x=>by rw[KT];rfl) (fun k d=>(lg KT (ZC9 k (fun j r=>e j (by omega)))))) (b 4 _ rfl) a
 obtain⟨v5,z,o⟩:=rf (Di Tryz.underlying30 (by kernel_rfl:Tryz.prog.cellsOf 65=8) (by decide) (fun x=>by rw[H2];rfl) (fun k d=>(lg H2 (ZyF k (fun j r=>e j (by omega)))))) (b 5 _ rfl) a
 obtain⟨C,A,p⟩:=rf (Di Tryz.underlying31 (by kernel_rfl:Tryz.prog.cellsOf 87=4) (by decide) (fun _=>rfl) (fun k d=>(ZQ2 k))) (b 6 _ rfl) a
 have q:=EL (Bv f (Bv g (Bv h (Bv i (Bv l (Bv o (EI p)))))))
 exact⟨.mk v0 B v2 v3 v4 v5 C,⟨by rw[c];kernel_rfl,(t.at.app (u.at.app (v.at.app (w.at.app (y.at.app (z.at.app A.at))))))⟩,q⟩
theorem ZRm(n:Nat):Ck enc Tryz.prog W n 53 DJ:=fun cs x f=>by
 obtain⟨xs,m,rfl,rfl,b,a,c⟩:=DataW.trod_struct Tryz.underlying53 f
 obtain⟨v0,g,d⟩:=rf (EJ Tryz.underlying3) (c 0 _ rfl) a
 obtain⟨i,h,e⟩:=rf (EG Tryz.underlying9) (c 1 _ rfl) a
 have q:=EL (Bv d (EI e))
 exact⟨.mk v0 i,⟨by rw[b];kernel_rfl,(g.at.app h.at)⟩,q⟩
theorem Nf(n:Nat):Ck enc Tryz.prog W n 132 BS:=fun cs x f=>by
 obtain⟨xs,m,rfl,rfl,b,a,c⟩:=DataW.trod_struct Tryz.underlying132 f
 obtain⟨v0,g,d⟩:=rf (EG Tryz.underlying9) (c 0 _ rfl) a
 obtain⟨i,h,e⟩:=rf (WZ m) (c 1 _ rfl) a
 have q:=EL (Bv d (EI e))
 exact⟨.mk v0 i,⟨by rw[b];kernel_rfl,(g.at.app h.at)⟩,q⟩
theorem ZPE(n:Nat):Ck enc Tryz.prog W n 56 Ao:=fun cs x p=>by
 obtain⟨xs,m,rfl,rfl,c,a,b⟩:=DataW.trod_struct Tryz.underlying56 p
 obtain⟨v0,r,d⟩:=rf (EJ Tryz.underlying3) (b 0 _ rfl) a
 obtain⟨B,s,e⟩:=rf (EG Tryz.underlying9) (b 1 _ rfl) a
 obtain⟨v2,t,f⟩:=rf (EJ Tryz.underlying3) (b 2 _ rfl) a
 obtain⟨v3,u,g⟩:=rf (EJ Tryz.underlying3) (b 3 _ rfl) a
 obtain⟨v4,v,h⟩:=rf (ZRm m) (b 4 _ rfl) a
 obtain⟨v5,w,i⟩:=rf (EG Tryz.underlying9) (b 5 _ rfl) a
 obtain⟨C,y,j⟩:=rf (ZxV Tryz.underlying4) (b 6 _ rfl) a
 obtain⟨D,z,l⟩:=rf (WZ m) (b 7 _ rfl) a
 obtain⟨E,A,o⟩:=rf (Di Tryz.underlying54 (by kernel_rfl:Tryz.prog.cellsOf 132=8) (by decide) (fun _=>rfl) (fun k F=>(Nf k))) (b 8 _ rfl) a
 have q:=EL (Bv d (Bv e (Bv f (Bv g (Bv h (Bv i (Bv j (Bv l (EI o)))))))))
 exact⟨.mk v0 B v2 v3 v4 v5 C D E,⟨by rw[c];kernel_rfl,(r.at.app (s.at.app (t.at.app (u.at.app (v.at.app (w.at.app (y.at.app (z.at.app A.at))))))))⟩,q⟩
theorem tv(n:Nat):Ck enc Tryz.prog W n 207 Cv:=fun cs x f=>by
 obtain⟨xs,m,rfl,rfl,b,a,c⟩:=DataW.trod_struct Tryz.underlying207 f
 obtain⟨v0,g,d⟩:=rf (EJ Tryz.underlying3) (c 0 _ rfl) a
 obtain⟨i,h,e⟩:=rf (EJ Tryz.underlying3) (c 1 _ rfl) a
 have q:=EL (Bv d (EI e))
 exact⟨.mk v0 i,⟨by rw[b];kernel_rfl,(g.at.app h.at)⟩,q⟩
theorem ZPc(n:Nat):Ck enc Tryz.prog W n 61 AE:=fun cs x j=>by
 obtain⟨xs,m,rfl,rfl,c,a,b⟩:=DataW.trod_struct Tryz.underlying61 j
 obtain⟨v0,l,e⟩:=rf (EG Tryz.underlying9) (b 0 _ rfl) a
 obtain⟨t,o,f⟩:=rf (Di Tryz.underlying57 (by kernel_rfl:Tryz.prog.cellsOf 56=16) (by decide) (fun _=>rfl) (fun k d=>(ZPE k))) (b 1 _ rfl) a
 obtain⟨v2,p,g⟩:=rf (Di Tryz.underlying58 (by kernel_rfl:Tryz.prog.cellsOf 207=2) (by decide) (fun _=>rfl) (fun k d=>(tv k))) (b 2 _ rfl) a
 obtain⟨v3,r,h⟩:=rf (Di Tryz.underlying59 (by kernel_rfl:Tryz.prog.cellsOf 9=1) (by decide) (fun _=>rfl) (fun k d=>(EG Tryz.underlying9))) (b 3 _ rfl) a
 obtain⟨v4,s,i⟩:=rf (Di Tryz.underlying54 (by kernel_rfl:Tryz.prog.cellsOf 132=8) (by decide) (fun _=>rfl) (fun k d=>(Nf k))) (b 4 _ rfl) a
 have q:=EL (Bv e (Bv f (Bv g (Bv h (EI i)))))
 exact⟨.mk v0 t v2 v3 v4,⟨by rw[c];kernel_rfl,(l.at.app (o.at.app (p.at.app (r.at.app s.at))))⟩,q⟩
theorem ZNU(n:Nat):Ck enc Tryz.prog W n 94 Cr:=fun cs x g=>by
 obtain⟨xs,m,rfl,rfl,b,a,c⟩:=DataW.trod_struct Tryz.underlying94 g
 obtain⟨v0,h,d⟩:=rf (EG Tryz.underlying9) (c 0 _ rfl) a
 obtain⟨l,i,e⟩:=rf (EJ Tryz.underlying3) (c 1 _ rfl) a
 obtain⟨v2,j,f⟩:=rf (Di Tryz.underlying54 (by kernel_rfl:Tryz.prog.cellsOf 132=8) (by decide) (fun _=>rfl) (fun k o=>(Nf k))) (c 2 _ rfl) a
 have q:=EL (Bv d (Bv e (EI f)))
 exact⟨.mk v0 l v2,⟨by rw[b];kernel_rfl,(h.at.app (i.at.app j.at))⟩,q⟩
theorem ZQF(n:Nat):Ck enc Tryz.prog W n 92 Bw:=fun cs x j=>by
 obtain⟨xs,m,rfl,rfl,c,a,b⟩:=DataW.trod_struct Tryz.underlying92 j
 obtain⟨v0,l,e⟩:=rf (EG Tryz.underlying9) (b 0 _ rfl) a
 obtain⟨t,o,f⟩:=rf (ZxV Tryz.underlying4) (b 1 _ rfl) a
 obtain⟨v2,p,g⟩:=rf (Di Tryz.underlying90 (by kernel_rfl:Tryz.prog.cellsOf 94=3) (by decide) (fun _=>rfl) (fun k d=>(ZNU k))) (b 2 _ rfl) a
 obtain⟨v3,r,h⟩:=rf (Di Tryz.underlying58 (by kernel_rfl:Tryz.prog.cellsOf 207=2) (by decide) (fun _=>rfl) (fun k d=>(tv k))) (b 3 _ rfl) a
 obtain⟨v4,s,i⟩:=rf (Di Tryz.underlying54 (by kernel_rfl:Tryz.prog.cellsOf 132=8) (by decide) (fun _=>rfl) (fun k d=>(Nf k))) (b 4 _ rfl) a
 have q:=EL (Bv e (Bv f (Bv g (Bv h (EI i)))))
 exact⟨.mk v0 t v2 v3 v4,⟨by rw[c];kernel_rfl,(l.at.app (o.at.app (p.at.app (r.at.app s.at))))⟩,q⟩
theorem ZRB(n:Nat):Ck enc Tryz.prog W n 99 G4:=fun cs x i=>by
 obtain⟨xs,m,rfl,rfl,c,a,b⟩:=DataW.trod_struct Tryz.underlying99 i
 obtain⟨v0,j,d⟩:=rf (EG Tryz.underlying9) (b 0 _ rfl) a
 obtain⟨s,l,e⟩:=rf (EG Tryz.underlying9) (b 1 _ rfl) a
 obtain⟨v2,o,f⟩:=rf (EG Tryz.underlying9) (b 2 _ rfl) a
 obtain⟨v3,p,g⟩:=rf (EJ Tryz.underlying3) (b 3 _ rfl) a
 obtain⟨v4,r,h⟩:=rf (Di Tryz.underlying54 (by kernel_rfl:Tryz.prog.cellsOf 132=8) (by decide) (fun _=>rfl) (fun k t=>(Nf k))) (b 4 _ rfl) a
 have q:=EL (Bv d (Bv e (Bv f (Bv g (EI h)))))
 exact⟨.mk v0 s v2 v3 v4,⟨by rw[c];kernel_rfl,(j.at.app (l.at.app (o.at.app (p.at.app r.at))))⟩,q⟩
theorem ZQg(n:Nat):Ck enc Tryz.prog W n 97 CV:=fun cs x h=>by
 obtain⟨xs,m,rfl,rfl,b,a,c⟩:=DataW.trod_struct Tryz.underlying97 h
 obtain⟨v0,i,d⟩:=rf (EG Tryz.underlying9) (c 0 _ rfl) a
 obtain⟨o,j,e⟩:=rf (Di Tryz.underlying95 (by kernel_rfl:Tryz.prog.cellsOf 99=5) (by decide) (fun _=>rfl) (fun k g=>(ZRB k))) (c 1 _ rfl) a
 obtain⟨v2,l,f⟩:=rf (Di Tryz.underlying54 (by kernel_rfl:Tryz.prog.cellsOf 132=8) (by decide) (fun _=>rfl) (fun k g=>(Nf k))) (c 2 _ rfl) a
 have q:=EL (Bv d (Bv e (EI f)))
 exact⟨.mk v0 o v2,⟨by rw[b];kernel_rfl,(i.at.app (j.at.app l.at))⟩,q⟩
theorem ZPl(n:Nat):Ck enc Tryz.prog W n 26 Al:=fun cs x h=>by
 obtain⟨xs,m,rfl,rfl,b,a,c⟩:=DataW.trod_struct Tryz.underlying26 h
 obtain⟨v0,i,e⟩:=rf (Di Tryz.underlying22 (by kernel_rfl:Tryz.prog.cellsOf 61=5) (by decide) (fun _=>rfl) (fun k d=>(ZPc k))) (c 0 _ rfl) a
 obtain⟨o,j,f⟩:=rf (Di Tryz.underlying23 (by kernel_rfl:Tryz.prog.cellsOf 92=5) (by decide) (fun _=>rfl) (fun k d=>(ZQF k))) (c 1 _ rfl) a
 obtain⟨v2,l,g⟩:=rf (Di Tryz.underlying24 (by kernel_rfl:Tryz.prog.cellsOf 97=3) (by decide) (fun _=>rfl) (fun k d=>(ZQg k))) (c 2 _ rfl) a
 have q:=EL (Bv e (Bv f (EI g)))
 exact⟨.mk v0 o v2,⟨by rw[b];kernel_rfl,(i.at.app (j.at.app l.at))⟩,q⟩
end
end Go.Proofs.YthgmbpciandpiaaGreat
namespace Go.Eng
set_option linter.all false
open Go Go.RowKit
section
variable {σ ξ ρ α β γ:Type}
theorem Ei{B:Nat→Option (Lv Nat ξ ρ)}{N:Nat}(l:List α)(p:α→Bool)(f:Nat→ρ)(e:ξ)
  (hs:∀i x,l[i]?=some x→B i=some (if p x=true then .rt (f i)else .nx (i+1))) (he:B l.length=some (.ex e)) (hN:l.length<N):
  An B N 0=some (match l.findIdx? p with|some i=>.inr (f i)|none=>.inl e):=by
 suffices H:∀k i N,i+k=l.length→k<N→An B N i=some (match (l.drop i).findIdx? p with|some j=>.inr (f (i+j))|none=>.inl e)by
  have:=H l.length 0 N (by omega) hN
  simpa using this
 intro k
 induction k with
 |zero=>
  intro i N hi hN
  obtain⟨N,rfl⟩:∃m,N=m+1:=⟨N-1,by omega⟩
  have:i=l.length:=by omega
  subst this
  rw[An,he,Rx]
  rfl
 |succ k b=>
  intro i N hi hN
  obtain⟨N,rfl⟩:∃m,N=m+1:=⟨N-1,by omega⟩
  have a:i<l.length:=by omega
  rw[An,hs i l[i] (Ye a),IK a,List.findIdx?_cons]
  cases c:p l[i]with
  |true=>simp
  |false=>
   simp only[Yk,YD]
   rw[b (i+1) N (by omega) (by omega)]
   cases(List.drop (i+1) l).findIdx? p with
   |none=>rfl
   |some j=>simp[YG,N3 1 j]
def MZ(R:List α→α→Option ρ):List α→List α→Option ρ
 |_,[]=>none
 |p,x::l=>match R p x with
  |some r=>some r
  |none=>MZ R (p++[x]) l
theorem ZAv{B:σ→Option (Lv σ ξ ρ)}{N:Nat}(l:List α)(S:List α→β)(R:List α→α→Option ρ)(mk:Nat→β→σ)(e:β→ξ)
  (hs:∀i x,l[i]?=some x→B (mk i (S (l.take i)))=some (match R (l.take i) x with|some r=>.rt r|none=>.nx (mk (i+1) (S (l.take i++[x])))))
  (he:B (mk l.length (S l))=some (.ex (e (S l)))) (hN:l.length<N):An B N (mk 0 (S []))=some ((MZ R [] l).elim (.inl (e (S l))) .inr):=by
 suffices H:∀k i N,i+k=l.length→k<N→An B N (mk i (S (l.take i)))=some ((MZ R (l.take i) (l.drop i)).elim (.inl (e (S l))) .inr)by
  have:=H l.length 0 N (by omega) hN
  grind
 intro k
 induction k with
 |zero=>
  intro i N hi hN
  obtain⟨N,rfl⟩:∃m,N=m+1:=⟨N-1,by omega⟩
  have:i=l.length:=by omega
  subst this
  rw[An,LB,he,Rx]
  rfl
 |succ k b=>
  intro i N hi hN
  obtain⟨N,rfl⟩:∃m,N=m+1:=⟨N-1,by omega⟩
  have a:i<l.length:=by omega
  rw[An,hs i l[i] (Ye a),IK a,MZ]
  cases R (l.take i) l[i]with
  |some r=>rfl
  |none=>
   have:=b (i+1) N (by omega) (by omega)
   rw[Y6 a]at this
   exact this
theorem ZiP{R:List α→α→Option ρ}(h:∀p x,R p x=none):∀(l p:List α),MZ R p l=none
 |[],p=>rfl
 |x::l,p=>by rw[MZ,h];exact ZiP h l _
theorem ED{B:σ→Option (Lv σ ξ ρ)}{N:Nat}(l:List α)(S:List α→β)(mk:Nat→β→σ)(e:β→ξ)
  (hs:∀i x,l[i]?=some x→B (mk i (S (l.take i)))=some (.nx (mk (i+1) (S (l.take i++[x])))))
  (he:B (mk l.length (S l))=some (.ex (e (S l)))) (hN:l.length<N):An B N (mk 0 (S []))=some (.inl (e (S l))):=by
 rw[ZAv l S (fun _ _=>none) mk e hs he hN,ZiP fun _ _=>rfl]
 rfl
theorem ZpV{B:σ→Option (Lv σ ξ ρ)}(I:Nat→σ→Prop)(Q:ξ ⊕ ρ→Prop)
  (h:∀k v,I k v→∃o,B v=some o∧match o with|.nx c=>∃k',k'<k∧I k' c|.ex b=>Q (.inl b)|.rt y=>Q (.inr y)):
  ∀N k v,k<N→I k v→∃o,An B N v=some o∧Q o
 |0,k,v,d,_=>absurd d (GO _)
 |N+1,k,v,d,g=>by
  obtain⟨o,e,a⟩:=h k v g
  rw[An,e]
  cases o with
  |nx c=>obtain⟨k',i,f⟩:=a;exact ZpV I Q h N k' c (by omega) f
  |ex b=>exact⟨_,rfl,a⟩
  |rt y=>exact⟨_,rfl,a⟩
theorem Bj{l:List α}{i:Nat}{x:α}(h:l[i]?=some x):(i:Int)<(l.length:Int):=by
 grind
theorem A3{n:Nat}(h:n<4611686018427387904):n<Aj:=h
end
end Go.Eng
namespace Go.Proofs.YthgmbpciandpiaaGreat
set_option linter.all false
open Go Go.Eng
def Ok{α:Type}(Q:α→Prop)(o:Option α):Prop:=∃y,o=some y∧Q y
section
variable {α β γ σ ξ ρ:Type} {Q:β→Prop} {P:α→Prop}
theorem AC{y:β}(h:Q y):Ok Q (some y):=⟨y,rfl,h⟩
theorem AD{m:Option α}{k:α→Option β}(h:Ok P m)(a:∀y,P y→Ok Q (k y)):Ok Q (m.bind k):=by
 obtain⟨y,rfl,h⟩:=h
 exact a y h
theorem Bl{xs:List α}{i:Nat}{k:α→Option β}(h:i<xs.length)(a:∀x,xs[i]?=some x→x∈xs→Ok Q (k x)):Ok Q (xs[i]?.bind k):=by
 rw[Ye h]
 exact a _ (Ye h) (IC h)
theorem AG{b:Bool}{x y:Option β}(h:b=true→Ok Q x)(a:b=false→Ok Q y):Ok Q (if b=true then x else y):=by
 cases b
 ·exact a rfl
 ·exact h rfl
theorem AK{c:Prop}{d:Decidable c}{a:Option β}(b:c)(h:Ok Q a):Ok Q (if c then a else none):=by
 rw[Yg b]
 exact h
theorem ZSJ{lo hi:Bd}{n:Nat}{a:Option β}(b:lo.c∧hi.c∧lo.vl 0≤hi.vl n∧hi.vl n≤n)(h:Ok Q a):Ok Q (if lo.c∧hi.c∧lo.vl 0≤hi.vl n∧hi.vl n≤n then a else none):=by
 rw[Yg b]
 exact h
theorem Bs{b:Bool}{m:Option α}{x:Option β}(h:b=true→Ok P m)[Inhabited α](d:(b=true→P (m.getD default))→Ok Q x):Ok Q (if(b=true→m.isSome=true)then x else none):=by
 rw[Yg fun e=>by obtain⟨y,h,_⟩:=h e;rw[h];rfl]
 refine d fun e=>?_
 obtain⟨y,a,c⟩:=h e
 rw[a]
 exact c
theorem Gi{b:Bool}{xs:List α}{i:Int}{x:Option β}[Rw α](h:b=true→0≤i∧i<xs.length)(c:(b=true→xs[i.toNat]?=some (xs.getD i.toNat Rw.z)∧xs.getD i.toNat Rw.z∈xs)→Ok Q x):Ok Q (if(b=true→0≤i∧i<xs.length)then x else none):=by
 rw[Yg h]
 refine c fun e=>?_
 have d:=h e
 have a:i.toNat<xs.length:=by omega
 rw[Yp,Ye a]
 exact⟨rfl,IC a⟩
theorem Ba{B:σ→Option (Lv σ ξ ρ)}{N:Nat}{v:σ}(I:σ→Prop)(μ:σ→Nat){A:ξ→Prop}{R:ρ→Prop}(d:I v)(hN:μ v<N)
  (hs:∀v,I v→Ok (fun o=>match o with|.nx c=>I c∧μ c<μ v|.ex b=>A b|.rt y=>R y) (B v)):Ok (Sum.elim A R) (An B N v):=
 ZpV (fun k v=>I v∧μ v≤k) (Sum.elim A R) (fun k v h=>by
  obtain⟨o,e,a⟩:=hs v h.1
  refine⟨o,e,?_⟩
  cases o with
  |nx c=>exact⟨μ c,by have:=a.2;have:=h.2;omega,a.1,Yh _⟩
  |ex b=>exact a
  |rt y=>exact a) N (μ v) v hN ⟨d,Yh _⟩
theorem Bh{m:Option (ξ ⊕ ρ)}{A:ξ→Prop}{R:ρ→Prop}{f:ξ→Option β}{g:ρ→Option β}(h:Ok (Sum.elim A R) m)(c:∀b,A b→Ok Q (f b))(a:∀r,R r→Ok Q (g r)):Ok Q (m.bind (Sum.elim f g)):=by
 obtain⟨y,rfl,h⟩:=h
 cases y with
 |inl b=>exact c b h
 |inr r=>exact a r h
theorem Ok.mono{a:β→Prop}{o:Option β}(h:Ok Q o)(k:∀y,Q y→a y):Ok a o:=by
 obtain⟨y,b,c⟩:=h
 exact⟨y,b,k y c⟩
theorem Ok.some{o:Option β}(h:Ok Q o):o.isSome=true:=by
 obtain⟨y,a,b⟩:=h
 rw[a]
 rfl
end
abbrev Tr{α:Type}:α→Prop:=fun _=>True
abbrev No{α:Type}:α→Prop:=fun _=>False
abbrev Ts{α β:Type}:α ⊕ β→Prop:=Sum.elim Tr Tr
theorem sz0:(⟨#[]⟩:ByteArray).size=0:=rfl
theorem AS{p:Prop}(h:p:=by first|trivial|assumption|contradiction|omega|grind|(simp only[Bd.c,Bd.vl,ByteArray.size_append,sE,sz0]at*;grind)):p:=h
theorem A1{p:Prop}(h:p:=by first|trivial|assumption|contradiction|omega|solve_by_elim|(simp only[Yc,Yz,YL,GP,Hs,Yn,Yt]at*;omega)|grind):p:=h
theorem Tw(x:Int):Ok Tr (ZdA x):=⟨_,rfl,trivial⟩
theorem Ue(x:Int):Ok Tr (Zda x):=⟨_,rfl,trivial⟩
theorem ZYH(x:Val):Ok Tr (OL x):=⟨_,rfl,trivial⟩
theorem ZXg(x:Int):Ok Tr (Kv x):=⟨_,rfl,trivial⟩
theorem ZYI(x:Int):Ok Tr (OG x):=by
 dsimp only[OG,WN,br,lr,br,rem]
 (repeat' (first|with_reducible (first|refine AG (fun _=>?_) fun _=>?_|refine AC ?_|refine AK ?_ ?_)))<;>exact A1
theorem fF(x:ByteArray):Ok Tr (gQ x):=by
 dsimp only[gQ,nK,Vs,O9,O0,br,lr,br]
 (repeat' (first|with_reducible (first|refine AG (fun _=>?_) fun _=>?_|refine AC ?_|refine AK ?_ ?_)))<;>exact A1
theorem ZZy(x:ByteArray)(n:Int):Ok Tr (gL x n):=by
 dsimp only[gL,qf,jt,Vr,Ve,OZ,O1,U6,br,lr,br]
 (repeat' (first|with_reducible (first|refine AG (fun _=>?_) fun _=>?_|refine AC ?_|refine AK ?_ ?_)))<;>exact A1
theorem fv(x:ByteArray):Ok Tr (gx x):=by
 dsimp only[gx,n3,br,lr,br]
 (repeat' (first|with_reducible (first|refine AG (fun _=>?_) fun _=>?_|refine AC ?_|refine AK ?_ ?_)))<;>exact A1
def NK(x:Fld):Prop:=(x.card≠5→1≤x.card∧x.card≤4∧x.key=0)∧(x.card=5→x.key=1∨x.key=2∨x.key=3∨x.key=4∨x.key=5∨x.key=7)
theorem o91(x:Fld):Ok (fun b=>b=true→NK x) (gM x):=by
 unfold NK
 dsimp only[gM,nC,br,wg,lr,br]
 (repeat' (first|with_reducible (first|refine AG (fun _=>?_) fun _=>?_|refine AC ?_|refine AK ?_ ?_)))<;>(intro h;first|(cases h;done)|(simp only[Yc,YL,Rq,Yn,Yt]at*;omega))
theorem fP(x:ByteArray)(i a b:Int)(h:0≤i):Ok Tr (Mf x i a b):=by
 dsimp only[Mf,Ws,vz,lr,A9,F9]
 (repeat' (first|with_reducible (first|refine AG (fun _=>?_) fun _=>?_|refine AC ?_|refine AK ?_ ?_)))<;>exact A1
theorem ZYp(x:ByteArray)(i n:Int)(h:0≤i)(a:i≤2097152)(b:n≤9):Ok Tr (Kw x i n):=by
 have q:Ok Ts (An (KU x i n) Aj 0):=by
  refine Ba (fun _:Nat=>True) (fun v:Nat=>(n-v).toNat) trivial ?_ fun v _=>?_
  ·unfold Aj
   omega
  dsimp only[KU,P4,br,vs,Ar,ln,Ai,cl,wa,wi,br]
  (repeat' (first|with_reducible (first|refine AG (fun _=>?_) fun _=>?_|refine AC ?_)|(with_reducible apply AD;(exact fP _ _ _ _ (by omega));intro _ _)|with_reducible refine AK ?_ ?_))<;>exact A1
 dsimp only[Kw,Wu,WC,Xm,lr,lc]
 (repeat' (first|with_reducible (first|refine AG (fun _=>?_) fun _=>?_|refine AC ?_)|(with_reducible apply Bh;(exact q);all_goals(intro _ _;try dsimp only))|with_reducible refine AK ?_ ?_))<;>exact A1
set_option maxRecDepth 20000 in
theorem ZZr(x:ByteArray)(i:Int)(h:0≤i)(h1:i<x.size)(h2:x.size≤1048576):Ok (fun y=>0≤y∧y≤4) (OI x i):=by
 dsimp only[OI,Ww,br,vg,lr,Az,wi,br,QV]
 (repeat' (first|with_reducible (first|refine AG (fun _=>?_) fun _=>?_|refine AC ?_|refine Bl ?_ fun _ _ _=>?_)|(with_reducible apply AD;(exact fP _ _ _ _ (by omega));intro _ _)|(with_reducible apply AD;(exact ZYp _ _ _ (by omega) (by omega) (by omega));intro _ _)|(with_reducible apply Bs;(exact fun _=>fP _ _ _ _ (by omega));intro _)|(with_reducible apply Bs;(exact fun _=>ZYp _ _ _ (by omega) (by omega) (by omega));intro _)|with_reducible refine AK ?_ ?_))<;>exact A1
theorem HX:∀a b:List (List D),AU (a++b)=AU a+AU b
 |[],b=>by rw[Hu,AU,YN]
 |x::a,b=>by rw[IB,AU,AU,HX a b];omega
theorem Vn{α:Type}(e:α→List D){l:List α}{i:Nat}{x:α}(h:l[i]?=some x):AU ((l.take (i+1)).map e)=AU ((l.take i).map e)+As (e x)+1:=by
 obtain⟨a,rfl⟩:=Yb.1 h
 rw[Y6 a,Eh,HX]
 simp only[YZ,E0,AU]
 omega
theorem MG{α:Type}(e:α→List D)(l:List α)(i:Nat):AU ((l.take i).map e)≤AU (l.map e):=by
 conv=>rhs;rw[←FC i l,Eh,HX]
 omega
structure SzV (v:Val):Prop where
 t:v.text.size≤1048576
 l:v.list.length≤1048576
 p:v.pairs.length≤1048576
 s:v.slots.length≤1048576
 r:v.raws.length≤1048576
structure SzN (x:Nt):Prop where
 n:x.name.size≤1048576
 v:SzV x.val
abbrev Hc(l:List Nt):Prop:=l.length≤1048576∧∀x∈l,SzN x
structure SzF (x:Fld):Prop where
 n:x.name.size≤1048576
 t:x.type.name.size≤1048576
 u:x.union.size≤1048576
 d:SzV x.dflt
 o:Hc x.notes
structure SzM (x:Msg):Prop where
 n:x.name.size≤1048576
 fl:x.fields.length≤1048576
 f:∀y∈x.fields,SzF y
 r:x.reserved.length≤1048576
 gl:x.gone.length≤1048576
 g:∀y∈x.gone,y.size≤1048576
 o:Hc x.notes
structure SzI (x:Itm):Prop where
 n:x.name.size≤1048576
 o:Hc x.notes
structure SzE (x:Enm):Prop where
 n:x.name.size≤1048576
 il:x.items.length≤1048576
 i:∀y∈x.items,SzI y
 r:x.reserved.length≤1048576
 o:Hc x.notes
structure SzT (x:Mth):Prop where
 n:x.name.size≤1048576
 o:Hc x.notes
structure SzW (x:Svc):Prop where
 n:x.name.size≤1048576
 ml:x.methods.length≤1048576
 m:∀y∈x.methods,SzT y
 o:Hc x.notes
structure SzS (x:Scm):Prop where
 ml:x.messages.length≤1048576
 m:∀y∈x.messages,SzM y
 el:x.enums.length≤1048576
 e:∀y∈x.enums,SzE y
 wl:x.services.length≤1048576
 w:∀y∈x.services,SzW y
theorem B5{v:Val}(h:As (Ag v)≤1048576):SzV v:=by
 have a:=Cz (e:=AM) v.list
 have b:=Cz (e:=Ay) v.pairs
 have c:=Cz (e:=Am) v.slots
 have d:=Cz (e:=A0) v.raws
 simp only[Ag,As,bk]at h
 constructor<;>omega
theorem M4{v:Val}(h:As (Ag v)≤1048576):0≤v.bits∧v.bits≤18446744073709551615:=by
 simp only[Ag,As,bk]at h
 have:=zw (k:=.u64) (n:=v.bits) (by omega)
 exact this
theorem szN{x:Nt}(h:As (BS x)≤1048576):SzN x:=by
 have e:As (BS x)=x.name.size+As (Ag x.val):=by simp only[BS,Ag,As,bk]
 exact⟨by omega,B5 (by omega)⟩
theorem LJ{l:List Nt}(h:AU (l.map BS)≤1048576):Hc l:=⟨by have:=Cz (e:=BS) l;omega,fun x a=>szN (by have:=CQ (e:=BS) a;omega)⟩
theorem szF{x:Fld}(h:As (Ao x)≤1048576):SzF x:=by
 have e:x.name.size+x.type.name.size+x.union.size+As (Ag x.dflt)+AU (x.notes.map BS)≤As (Ao x):=by
  simp only[Ao,Ag,As,bk]
  omega
 exact⟨by omega,by omega,by omega,B5 (by omega),LJ (by omega)⟩
theorem szM{x:Msg}(h:As (AE x)≤1048576):SzM x:=by
 simp only[AE,As,bk]at h
 have a:=Cz (e:=Ao) x.fields
 have b:=Cz (e:=Cv) x.reserved
 have c:=Cz (e:=AW) x.gone
 exact⟨by omega,by omega,fun y hy=>szF (by have:=CQ (e:=Ao) hy;omega),by omega,by omega,fun y hy=>by have:=CQ (e:=AW) hy;simp only[AW,As,bk]at this;omega,LJ (by omega)⟩
theorem szI{x:Itm}(h:As (Cr x)≤1048576):SzI x:=by
 simp only[Cr,As,bk]at h
 exact⟨by omega,LJ (by omega)⟩
theorem szE{x:Enm}(h:As (Bw x)≤1048576):SzE x:=by
 simp only[Bw,As,bk]at h
 have a:=Cz (e:=Cr) x.items
 have b:=Cz (e:=Cv) x.reserved
 exact⟨by omega,by omega,fun y hy=>szI (by have:=CQ (e:=Cr) hy;omega),by omega,LJ (by omega)⟩
theorem szT{x:Mth}(h:As (G4 x)≤1048576):SzT x:=by
 simp only[G4,As,bk]at h
 exact⟨by omega,LJ (by omega)⟩
theorem szW{x:Svc}(h:As (CV x)≤1048576):SzW x:=by
 simp only[CV,As,bk]at h
 have a:=Cz (e:=G4) x.methods
 exact⟨by omega,by omega,fun y hy=>szT (by have:=CQ (e:=G4) hy;omega),LJ (by omega)⟩
theorem Df{x:Scm}(h:As (Al x)≤1048576):SzS x:=by
 simp only[Al,As,bk]at h
 have a:=Cz (e:=AE) x.messages
 have b:=Cz (e:=Bw) x.enums
 have c:=Cz (e:=CV) x.services
 exact⟨by omega,fun y hy=>szM (by have:=CQ (e:=AE) hy;omega),by omega,fun y hy=>szE (by have:=CQ (e:=Bw) hy;omega),by omega,fun y hy=>szW (by have:=CQ (e:=CV) hy;omega)⟩
theorem kh(x:ByteArray):x.data.toList.length=x.size:=by rw[Y0];rfl
theorem Bq{n:Nat}(h:n≤2097152):n<Aj:=by unfold Aj;omega
theorem ZYV(x:ByteArray)(h:x.size≤1048576):Ok Tr (UG x):=by
 have q:Ok Ts (An (MV x) Aj 0):=by
  refine Ba (fun v:Int=>0≤v∧v≤x.size+4) (fun v:Int=>(x.size+4-v).toNat) ⟨by omega,by omega⟩ (Bq (by omega)) fun v a=>?_
  dsimp only[MV,W9,br,vz,vs,Ar,ln,Ai,cl,wi,A9,br]
  (repeat' (first|with_reducible (first|refine AG (fun _=>?_) fun _=>?_|refine AC ?_)|(with_reducible apply AD;(exact ZZr _ _ a.1 A1 h);intro _ _)|with_reducible refine AK ?_ ?_))<;>exact AS
 dsimp only[UG,XB,WR,Wo,lr,lc]
 (repeat' (first|with_reducible (first|refine AG (fun _=>?_) fun _=>?_|refine AC ?_)|(with_reducible apply Bh;(exact q);all_goals(intro _ _;try dsimp only))|with_reducible refine AK ?_ ?_))<;>exact A1
theorem rc(x:ByteArray)(h:x.size≤1048576):Ok Tr (Mi x):=by
 dsimp only[Mi,Xl,lr,cl]
 (repeat' (first|with_reducible (first|refine AG (fun _=>?_) fun _=>?_|refine AC ?_)|(with_reducible apply AD;(exact ZYV _ h);intro _ _)|with_reducible refine AK ?_ ?_))<;>exact A1
theorem Ul(x:ByteArray)(h:x.size≤1048576):Ok Tr (ge x):=by
 have hl:=kh x
 have q:Ok Ts (An (Xg x) Aj 1):=by
  refine Ba (fun v:Nat=>v≤1048577) (fun v:Nat=>1048577-v) (by omega) (Bq (by omega)) fun v a=>?_
  dsimp only[Xg,nc,br,vz,vs,Ar,ln,Ai,cl,Az,wa,A9,br,ib,F9]
  (repeat' (first|with_reducible (first|refine AG (fun _=>?_) fun _=>?_|refine AC ?_|refine Bl ?_ fun _ _ _=>?_)|(with_reducible apply AD;(exact Tw _);intro _ _)|(with_reducible apply AD;(exact Ue _);intro _ _)|(with_reducible apply Bs;(exact fun _=>Tw _);intro _)|(with_reducible apply Bs;(exact fun _=>Ue _);intro _)|with_reducible refine AK ?_ ?_))<;>exact AS
 dsimp only[ge,nM,mb,ow,br,vz,vy,lr,lc,Az,A9,br,F9]
 (repeat' (first|with_reducible (first|refine AG (fun _=>?_) fun _=>?_|refine AC ?_)|(with_reducible apply Bh;(exact q);all_goals(intro _ _;try dsimp only))|(with_reducible apply AD;(exact Tw _);intro _ _)|(with_reducible apply AD;(exact Ue _);intro _ _)|(with_reducible apply Bs;(exact fun _=>Tw _);intro _)|(with_reducible apply Bs;(exact fun _=>Ue _);intro _)|with_reducible refine AK ?_ ?_))<;>exact A1
theorem ZY2(x:ByteArray)(h:x.size≤1048576):Ok Tr (gi x):=by
 have hl:=kh x
 have q:Ok (Sum.elim (fun b:ByteArray=>b.size≤1048576) Tr) (An (WM x) Aj (⟨#[]⟩,0)):=by
  refine Ba (fun v:ByteArray×Nat=>v.1.size≤v.2∧v.2≤x.size) (fun v:ByteArray×Nat=>x.size-v.2) ⟨by rw[sz0];omega,by omega⟩ (Bq (by omega)) fun v a=>?_
  obtain⟨v,i⟩:=v
  obtain⟨a,hi⟩:=a
  dsimp only at a hi
  dsimp only[WM,oJ,br,vz,vs,v2,Ar,ln,Ai,ad,cl,wa,ss,A9,br,ib]
  (repeat' (first|with_reducible (first|refine AG (fun _=>?_) fun _=>?_|refine AC ?_|refine Bl ?_ fun _ _ _=>?_)|(with_reducible apply AD;(exact Ul _ (by omega));intro _ _)|with_reducible (first|refine ZSJ ?_ ?_|refine AK ?_ ?_)))<;>exact AS
 dsimp only[gi,mq,lI,mU,br,vz,lr,lc,cl,A9,br]
 (repeat' (first|with_reducible (first|refine AG (fun _=>?_) fun _=>?_|refine AC ?_)|(with_reducible apply Bh;(exact q);all_goals(intro _ _;try dsimp only))|(with_reducible apply AD;(exact Ul _ (by assumption));intro _ _)|with_reducible refine AK ?_ ?_))<;>exact A1
set_option maxRecDepth 20000 in
theorem ZYX(x:ByteArray)(h:x.size≤1048576):Ok (fun y=>y.1.size≤1048576∧y.2.size≤1048576) (g6 x):=by
 have hl:=kh x
 have q:Ok (Sum.elim Tr (fun y:ByteArray×ByteArray=>y.1.size≤1048576∧y.2.size≤1048576)) (An (Xz x) Aj ((x.size:Int)-1)):=by
  refine Ba (fun v:Int=>-1≤v∧v<x.size) (fun v:Int=>(v+1).toNat) ⟨by omega,by omega⟩ (Bq (by omega)) fun v hv=>?_
  dsimp only[Xz,nN,br,vs,Ar,ln,Ai,wi,ss,br,QV]
  (repeat' (first|with_reducible (first|refine AG (fun _=>?_) fun _=>?_|refine AC ?_|refine Bl ?_ fun _ _ _=>?_|refine ZSJ ?_ ?_|refine AK ?_ ?_)))<;>exact AS
 dsimp only[g6,l4,o0,nd,vz,vs,lr,lc,wi,A9]
 (repeat' (first|with_reducible (first|refine AG (fun _=>?_) fun _=>?_|refine AC ?_)|(with_reducible apply Bh;(exact q);all_goals(intro _ _;try dsimp only))|with_reducible refine AK ?_ ?_))<;>exact AS
set_option maxRecDepth 20000 in
theorem q9(x:ByteArray)(h:x.size≤1048576):Ok Tr (gg x):=by
 have q:Ok Ts (An Wd Aj (x,0)):=by
  refine Ba (fun v:ByteArray×Nat=>v.1.size≤1048576∧v.2≤120) (fun v:ByteArray×Nat=>120-v.2) ⟨h,by omega⟩ (Bq (by omega)) fun v hv=>?_
  obtain⟨v,i⟩:=v
  obtain⟨hv,hi⟩:=hv
  dsimp only at hv hi
  dsimp only[Wd,nq,br,vs,v2,Ar,ln,Ai,cl,wa,br]
  (repeat' (first|with_reducible (first|refine AG (fun _=>?_) fun _=>?_|refine AC ?_)|(with_reducible apply AD;(exact ZYX _ hv);intro _ _)|(with_reducible apply AD;(exact fv _);intro _ _)|with_reducible refine AK ?_ ?_))<;>exact AS
 dsimp only[gg,l2,m7,mV,br,lr,lc,cl,br]
 (repeat' (first|with_reducible (first|refine AG (fun _=>?_) fun _=>?_|refine AC ?_)|(with_reducible apply Bh;(exact q);all_goals(intro _ _;try dsimp only))|(with_reducible apply AD;(exact ZY2 _ h);intro _ _)|with_reducible refine AK ?_ ?_))<;>exact AS
set_option maxRecDepth 20000 in
theorem Lk(x:ByteArray)(h:x.size≤1048576):Ok Tr (gC x):=by
 dsimp only[gC,lK,lr,cl,Az]
 (repeat' (first|with_reducible (first|refine AG (fun _=>?_) fun _=>?_|refine AC ?_)|(with_reducible apply AD;(exact Ul _ h);intro _ _)|(with_reducible apply AD;(exact fv _);intro _ _)|(with_reducible apply Bs;(exact fun _=>Ul _ h);intro _)|(with_reducible apply Bs;(exact fun _=>fv _);intro _)|with_reducible refine AK ?_ ?_))<;>exact AS
theorem o86(l:List ByteArray)(x:ByteArray)(h:l.length≤1048576):Ok Tr (OU l x):=by
 have q:Ok Ts (An (MP l x) Aj 0):=by
  refine Ba (fun v:Nat=>v≤l.length) (fun v:Nat=>l.length-v) (by omega) (Bq (by omega)) fun v a=>?_
  dsimp only[MP,Xe,br,ix,vz,vs,Ar,ln,Ai,wa,Ah,br]
  (repeat' (first|with_reducible (first|refine AG (fun _=>?_) fun _=>?_|refine AC ?_|refine Bl ?_ fun _ _ _=>?_|refine AK ?_ ?_)))<;>exact AS
 dsimp only[OU,V7,Xb,Wv,lr,lc]
 (repeat' (first|with_reducible (first|refine AG (fun _=>?_) fun _=>?_|refine AC ?_)|(with_reducible apply Bh;(exact q);all_goals(intro _ _;try dsimp only))|with_reducible refine AK ?_ ?_))<;>exact AS
theorem ra(l:List Spn)(x:Int)(h:l.length≤1048576):Ok Tr (gk l x):=by
 have q:Ok Ts (An (Wz l x) Aj 0):=by
  refine Ba (fun v:Nat=>v≤l.length) (fun v:Nat=>l.length-v) (by omega) (Bq (by omega)) fun v a=>?_
  dsimp only[Wz,oW,br,ix,AZ,vz,vs,Ar,ln,Ai,wa,Ah,br]
  (repeat' (first|with_reducible (first|refine AG (fun _=>?_) fun _=>?_|refine AC ?_|refine Bl ?_ fun _ _ _=>?_|refine Gi ?_ fun _=>?_|refine AK ?_ ?_)))<;>exact AS
 dsimp only[gk,nU,pC,kP,lr,lc]
 (repeat' (first|with_reducible (first|refine AG (fun _=>?_) fun _=>?_|refine AC ?_)|(with_reducible apply Bh;(exact q);all_goals(intro _ _;try dsimp only))|with_reducible refine AK ?_ ?_))<;>exact AS
theorem QX(s:Scm)(x:ByteArray)(h:SzS s):Ok (fun y:Int=>y<s.messages.length∧(0≤y→∃m∈s.messages,m.name=x)) (gD s x):=by
 have hm:=h.ml
 have q:Ok (Sum.elim Tr fun y:Int=>y<s.messages.length∧(0≤y→∃m∈s.messages,m.name=x)) (An (Xc s x) Aj 0):=by
  refine Ba (fun v:Nat=>v≤s.messages.length) (fun v:Nat=>s.messages.length-v) (by omega) (Bq (by omega)) fun v a=>?_
  dsimp only[Xc,qJ,br,ix,vz,wg,vs,Ar,ln,Ai,wa,Ah,br]
  (repeat' (first|with_reducible (first|refine AG (fun _=>?_) fun _=>?_|refine AC ?_|refine Bl ?_ fun _ _ _=>?_|refine AK ?_ ?_)))<;>first|exact⟨by omega,fun _=>⟨_,by assumption,DT (by assumption)⟩⟩|exact AS
 dsimp only[gD,qu,mT,mD,lr,lc]
 (repeat' (first|with_reducible (first|refine AG (fun _=>?_) fun _=>?_|refine AC ?_)|(with_reducible apply Bh;(exact q);all_goals(intro _ _;try dsimp only))|with_reducible refine AK ?_ ?_))<;>first|exact⟨by omega,fun h=>absurd h (by decide)⟩|exact AS
theorem ff(s:Scm)(x:ByteArray)(h:SzS s):Ok (fun y:Int=>y<s.enums.length∧(0≤y→∃m∈s.enums,m.name=x)) (gu s x):=by
 have hm:=h.el
 have q:Ok (Sum.elim Tr fun y:Int=>y<s.enums.length∧(0≤y→∃m∈s.enums,m.name=x)) (An (We s x) Aj 0):=by
  refine Ba (fun v:Nat=>v≤s.enums.length) (fun v:Nat=>s.enums.length-v) (by omega) (Bq (by omega)) fun v a=>?_
  dsimp only[We,kN,br,ix,vz,wg,vs,Ar,ln,Ai,wa,Ah,br]
  (repeat' (first|with_reducible (first|refine AG (fun _=>?_) fun _=>?_|refine AC ?_|refine Bl ?_ fun _ _ _=>?_|refine AK ?_ ?_)))<;>first|exact⟨by omega,fun _=>⟨_,by assumption,DT (by assumption)⟩⟩|exact AS
 dsimp only[gu,lO,nX,lE,lr,lc]
 (repeat' (first|with_reducible (first|refine AG (fun _=>?_) fun _=>?_|refine AC ?_)|(with_reducible apply Bh;(exact q);all_goals(intro _ _;try dsimp only))|with_reducible refine AK ?_ ?_))<;>first|exact⟨by omega,fun h=>absurd h (by decide)⟩|exact AS
theorem T0(v w:Val)(h:SzV v)(k:SzV w):Ok Tr (gE v w):=by
 obtain⟨_,_,_,_,_⟩:=h
 obtain⟨_,_,_,_,_⟩:=k
 dsimp only[gE,qo,vy,wg,vg,lr,wa,Ah]
 (repeat' (first|with_reducible (first|refine AG (fun _=>?_) fun _=>?_|refine AC ?_|refine AK ?_ ?_)))<;>exact AS
def sp(v:Val):Prop:=v.list=[]∧v.pairs=[]∧v.slots=[]∧v.raws=[]∧(v.kind=7∨v.kind=8→v.bits=0)∧(¬(v.kind=7∨v.kind=8)→v.text=⟨#[]⟩)
def NQ(n:Int)(v:Val):Prop:=1≤n∧n≤9∧v.kind=n∧sp v
theorem ZV1{n:Int}{v:Val}(h:SzV v)(e:Jh n v=some true):NQ n v:=by
 obtain⟨p,q,r,s,t⟩:=h
 have k:v.list.length<4611686018427387904:=by omega
 have l:v.pairs.length<4611686018427387904:=by omega
 have m:v.slots.length<4611686018427387904:=by omega
 have o:v.raws.length<4611686018427387904:=by omega
 have hi:Ky n=some (decide (1≤n)&&decide (n≤9)):=rfl
 dsimp only[Jh,PV,br,vz,vy,wg,lr,cl,Az,A9,br,OL,Xs,vz,vy,wg,lr,Ah,Kv,M2,lr]at e
 rw[hi]at e
 unfold NQ sp
 simp only[Ya]at e
 generalize Mi v.text=w at e
 simp[k,l,m,o]at e
 split at e
 ·cases e
 ·rename_i c
  simp only[not_or,Decidable.not_not,Classical.not_imp,Int.not_lt]at c
  obtain⟨⟨⟨d,f⟩,b⟩,⟨⟨g,i⟩,j⟩,c6⟩:=c
  refine⟨d,f,b,g,i,j,c6,fun a=>?_,fun a=>?_⟩
  ·rw[b]at a
   simp only[a,Yr]at e
   split at e<;>simp_all
  ·rw[b]at a
   simp only[a,YD]at e
   split at e<;>simp_all
theorem T2(n:Int)(v:Val)(h:SzV v):Ok (fun b=>b=true→NQ n v) (Jh n v):=by
 have a:=h.t
 have q:Ok Tr (Jh n v):=by
  have c:Ok Tr (Ky n):=⟨_,rfl,trivial⟩
  dsimp only[Jh,PV,br,vz,vy,wg,lr,cl,Az,A9,br]
  (repeat' (first|with_reducible (first|refine AG (fun _=>?_) fun _=>?_|refine AC ?_)|(with_reducible apply AD;(exact c);intro _ _)|(with_reducible apply AD;(exact ZYH _);intro _ _)|(with_reducible apply AD;(exact ZXg _);intro _ _)|(with_reducible apply AD;(exact rc _ a);intro _ _)|(with_reducible apply Bs;(exact fun _=>c);intro _)|(with_reducible apply Bs;(exact fun _=>ZYH _);intro _)|(with_reducible apply Bs;(exact fun _=>ZXg _);intro _)|(with_reducible apply Bs;(exact fun _=>rc _ a);intro _)|with_reducible refine AK ?_ ?_))<;>exact AS
 obtain⟨b,e,_⟩:=q
 exact⟨b,e,fun d=>ZV1 h (d▸e)⟩
theorem ZW1(v:Val)(h:SzV v):Ok SzV (OJ v):=by
 dsimp only[OJ,Sh,br,wg,lr,Az,br]
 (repeat' (first|with_reducible (first|refine AG (fun _=>?_) fun _=>?_|refine AC ?_)|(with_reducible apply AD;(exact ZYI _);intro _ _)|(with_reducible apply Bs;(exact fun _=>ZYI _);intro _)|with_reducible refine AK ?_ ?_))<;>first|exact h|exact⟨h.t,h.l,h.p,h.s,h.r⟩
theorem ZZO(x:Nt)(h:SzN x):Ok Tr (hP x):=by
 dsimp only[hP,mY,wg,lr,cl,Az]
 (repeat' (first|with_reducible (first|refine AG (fun _=>?_) fun _=>?_|refine AC ?_)|(with_reducible apply AD;(exact fF _);intro _ _)|(with_reducible apply AD;(exact T2 _ _ h.v);intro _ _)|(with_reducible apply Bs;(exact fun _=>fF _);intro _)|(with_reducible apply Bs;(exact fun _=>T2 _ _ h.v);intro _)|with_reducible refine AK ?_ ?_))<;>exact AS
theorem ZZA(l:List Nt)(n:Int)(h:Hc l):Ok Tr (gW l n):=by
 obtain⟨b,a⟩:=h
 have q:Ok Ts (An (W8 l n) Aj 0):=by
  refine Ba (fun v:Nat=>v≤l.length) (fun v:Nat=>l.length-v) (by omega) (Bq (by omega)) fun v c=>?_
  dsimp only[W8,oZ,br,ix,AZ,vz,vs,vg,Ar,ln,Ai,cl,wa,wi,Ah,br]
  (repeat' (first|with_reducible (first|refine AG (fun _=>?_) fun _=>?_|refine AC ?_|refine Bl ?_ fun _ _ _=>?_)|(with_reducible apply AD;(exact fF _);intro _ _)|(with_reducible apply AD;(exact ZZy _ _);intro _ _)|(with_reducible apply AD;(exact ZZO _ (a _ (by assumption)));intro _ _)|with_reducible (first|refine Gi ?_ fun _=>?_|refine AK ?_ ?_)))<;>exact AS
 dsimp only[gW,o1,lF,oR,br,vz,lr,lc,Ah,br]
 (repeat' (first|with_reducible (first|refine AG (fun _=>?_) fun _=>?_|refine AC ?_)|(with_reducible apply Bh;(exact q);all_goals(intro _ _;try dsimp only))|with_reducible refine AK ?_ ?_))<;>exact AS
end Go.Proofs.YthgmbpciandpiaaGreat
