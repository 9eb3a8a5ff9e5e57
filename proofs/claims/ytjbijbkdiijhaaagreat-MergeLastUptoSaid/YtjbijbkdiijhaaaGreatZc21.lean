import Derived.Test.YtjbijbkdiijhaaaGreatZc09
import Derived.Test.YtjbijbkdiijhaaaGreatZc08
import Derived.Test.YtjbijbkdiijhaaaGreatRows
import Derived.WalkKit
import Derived.ProofKit
import Derived.OpenShut
import Derived.Carry
import Derived.Deep.DeepHandedRow
import Derived.Test.YtjbijbkdiijhaaaGreatZc11
import Derived.Test.YtjbijbkdiijhaaaGreatZc20
import Derived.Test.YtjbijbkdiijhaaaGreatZc00
namespace Go.Proofs.YtjbijbkdiijhaaaGreat
set_option linter.all false
open Go Go.Eng Go.ChangeShapes Go.WideShapes Go.ChangeAt Go.RowKit
theorem Zn1{H:Type}(b:List UInt8):Rows.uptoBulk (DataW.lit (H:=H) (.string b))=b.length+1:=by simp only[Rows.uptoBulk]
theorem Zq6{H:Type}(a b:List (DataW H)):Rows.uptoBulk (.slice a b)=Rows.uptoBulkAll a+Rows.uptoBulkAll b+1:=by simp only[Rows.uptoBulk]
theorem ZxJ{H:Type}(a:List (DataW H)):Rows.uptoBulk (.agg a)=Rows.uptoBulkAll a+1:=by simp only[Rows.uptoBulk]
def JX(W:World)(ds:List D)(cs:List Value)(o:Nat):Prop:=∀(i:Nat) (d:D),ds[i]?=some d→∃c,cs[o+i]?=some c∧RepD W (· <W.heap.size) d c
def LC(W:World)(ds:List D)(cs:List Value):Prop:=ds.length=cs.length∧JX W ds cs 0
theorem JX.app{W:World}{ds a:List D}{cs:List Value}{o:Nat}(h:JX W ds cs o)(k:JX W a cs (o+ds.length)):JX W (ds++a) cs o:=fun i d hi=>by
 rcases YF i ds.length with hl|hl
 ·rw[Yp hl]at hi;exact h i d hi
 ·rw[Ys hl]at hi
  obtain⟨c,b,e⟩:=k _ d hi
  grind
theorem JX.nil{W:World}{cs:List Value}{o:Nat}:JX W [] cs o:=fun i d h=>by simp at h
theorem LC.at{W:World}{ds:List D}{cs:List Value}{o k:Nat}(h:LC W ds ((cs.drop o).take k)):JX W ds cs o:=fun i d hi=>by
 obtain⟨c,a,b⟩:=h.2 i d hi
 grind
def rk(k:IntKind)(n:Int):Nat:=if Lit.wf (.int k n)=true then 0 else 1000000000000
theorem uU{k:IntKind}{n:Int}(h:rk k n≤1048576):k.min≤n∧n≤k.max:=by
 unfold rk at h
 split at h
 ·rename_i a
  unfold Lit.wf at a
  rw[Yc]at a
  exact⟨Y3 a.1,Y3 a.2⟩
 ·omega
mutual
def bk:D→Nat
 |.int k n=>rk k n
 |.bool _=>0
 |.str s=>s.size
 |.list a=>AR a
 |.map _ a=>AR a
def As:List D→Nat
 |[]=>0
 |d::l=>bk d+As l
def AR:List (List D)→Nat
 |[]=>0
 |e::l=>As e+1+AR l
end
theorem M0:∀a b:List D,As (a++b)=As a+As b
 |[],b=>by rw[Gj,As,YP]
 |d::a,b=>by rw[HM,As,As,M0 a b,YI]
theorem lQ(d:D):As [d]=bk d:=by rw[As,As,G3]
theorem CB{α:Type}{e:α→List D}:∀l:List α,l.length≤AR (l.map e)
 |[]=>Cv _
 |x::l=>by have:=CB (e:=e) l;rw[YW,AR,Fw];omega
theorem C2{α:Type}{e:α→List D}{x:α}:∀{l:List α},x∈l→As (e x)+1≤AR (l.map e)
 |y::l,h=>by
  rw[YW,AR]
  cases Yx.1 h with
  |inl h=>subst h;omega
  |inr h=>have:=C2 (e:=e) h;omega
section
variable {H:Type} (enc:TypeId×Value→H) (P:Program) (W:World)
def Cj{α:Type}(n:Nat)(t:TypeId)(e:α→List D):Prop:=
 ∀cs x,DataW.trod enc P W 0 (fun _=>true) true n t cs=some x→∃v:α,LC W (e v) cs∧As (e v)+1≤Rows.uptoBulk x.1
end
section
variable {H:Type} {enc:TypeId×Value→H} {P:Program} {W:World} {n:Nat} {t:TypeId}
theorem kU(d:DataW H):1≤Rows.uptoBulk d:=by cases d<;>(try (rename_i l;cases l))<;>simp[Rows.uptoBulk]
theorem PD{d:D}{c:Value}(h:RepD W (· <W.heap.size) d c):LC W [d] [c]:=⟨rfl,fun i d' hi=>by
 cases i with
 |zero=>cases hi;exact⟨c,rfl,h⟩
 |succ i=>simp at hi⟩
theorem ED{k:IntKind}(a:P.underlying t=some (.int k)):Cj enc P W n t (fun v:Int=>[.int k v]):=fun cs x hx=>by
 obtain⟨m,rfl,rfl,b⟩:=DataW.trod_int a hx
 refine⟨m,PD (.int _ _),?_⟩
 rw[lQ,bk,rk,Yk b]
 exact kU _
theorem Zwl(a:P.underlying t=some .bool):Cj enc P W n t (fun v:Bool=>[.bool v]):=fun cs x hx=>by
 obtain⟨m,rfl,rfl⟩:=DataW.trod_bool a hx
 exact⟨m,PD (.bool _),kU _⟩
theorem EB(a:P.underlying t=some .string):Cj enc P W n t (fun v:ByteArray=>[.str v]):=fun cs x hx=>by
 obtain⟨m,rfl,rfl,_⟩:=DataW.trod_string a hx
 refine⟨m,PD (.str _),?_⟩
 rw[Zn1,lQ]
 exact Yf _
theorem tg{α:Type}{e:α→List D}:∀(l:List α) (xs:List (DataW H×List MemPlace)),l.length=xs.length→(∀(i:Nat) (v:α),l[i]?=some v→∃y:DataW H×List MemPlace,xs[i]?=some y∧As (e v)+1≤Rows.uptoBulk y.1)→AR (l.map e)≤Rows.uptoBulkAll (xs.map (·.1))
 |[],_,_,_=>Cv _
 |x::l,[],h,_=>by cases h
 |x::l,y::xs,h,k=>by
  have:=tg l xs (aj h) (fun i v hi=>k (i+1) v hi)
  obtain⟨c,a,b⟩:=k 0 x rfl
  cases a
  rw[YW,YW,AR]
  simp only[Rows.uptoBulkAll]
  omega
theorem ZrW{α:Type}{Q:Nat→α→Prop}:∀(len:Nat),(∀i,i<len→∃v,Q i v)→∃l:List α,l.length=len∧∀i v,l[i]?=some v→Q i v
 |0,_=>⟨[],rfl,fun i v h=>by simp at h⟩
 |len+1,h=>by
  obtain⟨l,a,b⟩:=ZrW len (fun i hi=>h i (by omega))
  obtain⟨v,c⟩:=h len (by omega)
  refine⟨l++[v],by simp[a],fun i w hi=>?_⟩
  grind
theorem Df{α:Type}{e:TypeId}{b:α→List D}{sz:Nat}(X:P.underlying t=some (.slice e))(E:P.cellsOf e=sz)(V:sz≠0)(hl:∀x,(b x).length=sz)(h:∀m,m<n→Cj enc P W m e b):
  Cj enc P W n t (fun l:List α=>[.list (l.map b)]):=fun cs x hx=>by
 rcases DataW.trod_slice X hx with⟨rfl,rfl⟩|⟨a,len,cap,g,J,m,rfl,rfl,rfl,Z,z,T,U,hi,_,_⟩
 ·exact⟨[],PD .nil,kU _⟩
 ·have k:∀i,i<len→∃v:α,∃y f,g[i]?=some y∧W.cells? 0 (a.add (i*sz)) sz=some f∧LC W (b v) f∧As (b v)+1≤Rows.uptoBulk y.1:=fun i B=>by
   have I:=hi i B
   rw[Ye (by omega),E]at I
   obtain⟨f,N,O⟩:=ra.1 I
   obtain⟨v,Q,R⟩:=h m (by omega) f _ O
   exact⟨v,_,f,Ye (by omega),N,Q,R⟩
  obtain⟨l,A,r⟩:=ZrW len k
  have cell:∀(i j:Nat) (e':List D) (x:D),(l.map b)[i]?=some e'→e'[j]?=some x→∃c,W.cell? (a.add (i*sz+j))=some c∧RepD W (· <W.heap.size) x c:=fun i j e' x d o=>by
   rw[YR]at d
   cases s:l[i]? with
   |none=>rw[s]at d;cases d
   |some v=>
    rw[s]at d
    cases d
    obtain⟨y,f,p,q,F,G⟩:=r i v s
    obtain⟨c,H,K⟩:=F.2 j x o
    rw[YP]at H
    obtain⟨_,Y,L⟩:=World.cells?_some q
    have u:j<sz:=by
     rw[←hl v]
     rcases YF j (b v).length with h|h
     ·exact h
     ·rw[YM h]at o;cases o
    refine⟨c,?_,K⟩
    rw[←Go.Eng.add_add,L j u,H]
  refine⟨l,PD ?_,?_⟩
  ·have hlen:(l.map b).length=len:=by simp[A]
   have:=RepD.list (w:=W) (S:=(· <W.heap.size)) (l.map b) a sz cap (fun i j=>(W.cell? (a.add (i*sz+j))).getD undef) (fun C=>by
     have M:0<len:=by
      rcases Z7 len with h|h
      ·exact absurd (I3 (hlen.trans h)) C
      ·exact h
     obtain⟨v,y,f,_,q,_⟩:=k 0 M
     have:=World.cells?_block q (by omega)
     rw[Kk]at this
     rw[←Go.Eng.block_add a 0];exact this)
    (by rw[hlen];exact z) (fun e' he=>by obtain⟨y,_,rfl⟩:=YS.1 he;exact hl y)
    (fun i j e' x d o=>by obtain⟨c,p,_⟩:=cell i j e' x d o;rw[p];rfl)
    (fun i j e' x d o=>by obtain⟨c,p,q⟩:=cell i j e' x d o;rw[p];exact q)
   rw[hlen]at this
   exact this
  ·rw[Zq6,lQ,bk]
   have:=tg (e:=b) l g (by omega) (fun i v s=>by
    obtain⟨y,f,p,q,F,G⟩:=r i v s
    exact⟨y,p,G⟩)
   omega
def FB(xs:List (DataW H×List MemPlace))(i:Nat):Nat:=Rows.uptoBulkAll ((xs.drop i).map (·.1))
theorem Bv{xs:List (DataW H×List MemPlace)}{i:Nat}{a b:List D}(h:As a+1+FB xs (i+1)≤FB xs i)(k:As b≤FB xs (i+1)):As (a++b)≤FB xs i:=by
 rw[M0];omega
theorem EC{xs:List (DataW H×List MemPlace)}{i:Nat}{a:List D}(h:As a+1+FB xs (i+1)≤FB xs i):As a≤FB xs i:=by omega
theorem EE{xs:List (DataW H×List MemPlace)}{a:List D}(h:As a≤FB xs 0):As a+1≤Rows.uptoBulk (.agg (xs.map (·.1))):=by
 rw[ZxJ];exact Nat.succ_le_succ h
theorem ZyF{α:Type}{e:α→List D}{m i:Nat}{c:TypeId}{a:List Value}{xs:List (DataW H×List MemPlace)}(h:Cj enc P W m c e)(b:DataW.trod enc P W 0 (fun _=>true) true m c a=xs[i]?)(hi:i<xs.length):
  ∃v,LC W (e v) a∧As (e v)+1+FB xs (i+1)≤FB xs i:=by
 rw[Ye hi]at b
 obtain⟨v,d,f⟩:=h _ _ b
 refine⟨v,d,?_⟩
 unfold FB
 rw[HP hi,YW]
 simp only[Rows.uptoBulkAll]
 omega
theorem rf{α:Type}{e:α→List D}{m i k:Nat}{b:TypeId}{a:List Value}{xs:List (DataW H×List MemPlace)}(h:Cj enc P W m b e)(c:DataW.trod enc P W 0 (fun _=>true) true m b a=xs[i]?)(hx:xs.length=k)(hi:Nat.blt i k=true:=by kernel_rfl):
  ∃v,LC W (e v) a∧As (e v)+1+FB xs (i+1)≤FB xs i:=ZyF h c (by rw[hx];exact Yh hi)
theorem l5{α:Type}{e e':α→List D}(he:∀x,e x=e' x)(h:Cj enc P W n t e'):Cj enc P W n t e:=fun cs x hx=>by
 obtain⟨v,a,b⟩:=h cs x hx
 grind
theorem ly{α:Type}{e:α→List D}{q:Array Field}{r:Reach}{b:Nat}{v:Value}{d:DataW H}{p:List MemPlace}(rd:∀n,Cj enc P W n t e)(w:P.underlying t=some (.struct q))(z:Value.okWide P W r b t v)
  (h:DataW.Trod enc P W 0 (fun _=>true) true t v d p):∃x:α,(∀m l,RepA W (· <W.heap.size) (fun _=>⟨0,false,0,0,[]⟩) m l (.agg ((e x).map .d)) v)∧As (e x)+1≤Rows.uptoBulk d:=by
 obtain⟨cs,rfl,_⟩:=okWide_struct w z
 obtain⟨n,u⟩:=h
 obtain⟨x,k,s⟩:=rd n _ _ u
 have hl:(e x).length=cs.size:=by rw[k.1];simp[Value.cells]
 have key:∀(i:Nat) (c:Value),cs[i]?=some c→∃d,(e x)[i]?=some d∧RepD W (· <W.heap.size) d c:=fun i c f=>by
  have g:i<(e x).length:=by
   grind
  obtain⟨j,a,o⟩:=k.2 i _ (Ye g)
  have:j=c:=by
   rw[YP]at a
   have:cs.toList[i]?=some j:=a
   grind
  grind
 refine⟨x,fun m l=>.agg _ _ (by rw[YG,hl]) (fun i c f=>?_) (fun i y c hy f=>?_),s⟩
 ·obtain⟨d,_,a⟩:=key i c f;exact a.one
 ·obtain⟨d,a,o⟩:=key i c f
  rw[YR,a]at hy
  cases hy
  exact .d _ _ o
theorem ZFa{r:Reach}{a:Nat}{v:Value}{d:DataW H}{p:List MemPlace}(e:P.underlying t=some .string)(g:Value.okWide P W r a t v)(h:DataW.Trod enc P W 0 (fun _=>true) true t v d p):
  ∃x:ByteArray,(∀S Hp m l,RepA W S Hp m l (.d (.str x)) v)∧x.size+1≤Rows.uptoBulk d:=by
 obtain⟨x,rfl⟩:=okWide_string e g
 obtain⟨n,f⟩:=h
 obtain⟨s,b,c,_⟩:=DataW.trod_string e f
 have b:x=s:=by simpa[Value.cells]using b
 subst b
 have c:d=.lit (.string x.data.toList):=congrArg Prod.fst c
 subst c
 refine⟨x,fun _ _ _ _=>.d _ _ (.str _),?_⟩
 rw[Zn1]
 exact Yf _
def qQ:Hp:=fun _=>⟨0,false,0,0,[]⟩
theorem ok0(m:Mu):Ok 0 qQ m (· <W.heap.size) W:=⟨fun _ h=>h,fun _ _ h=>(by cases h),fun _ _ h=>(by cases h),fun _ _ _ _ h=>(by cases h),fun _ _ h=>(by cases h),⟨fun _ _ h=>(by cases h),fun _ _ h=>(by cases h),fun _ _ _ _ h=>(by cases h)⟩⟩
def yk(w:World)(S:Nat→Prop)(Hp:Hp)(m:Mu)(l:Nat):List AV→List Value→Prop
 |[],[]=>True
 |x::xs,v::vs=>RepA w S Hp m l x v∧yk w S Hp m l xs vs
 |_,_=>False
theorem ZIU{w:World}{S:Nat→Prop}{Hp:Hp}{m:Mu}{l:Nat}{xs:List AV}{vs:List Value}(h:yk w S Hp m l xs vs):K5 w S Hp m l xs vs.toArray:=by
 suffices b:xs.length=vs.length∧∀(i:Nat) (x:AV) (v:Value),xs[i]?=some x→vs[i]?=some v→RepA w S Hp m l x v by
  exact⟨by simpa using b.1,fun i x v hx e=>b.2 i x v hx (by simpa using e)⟩
 induction xs generalizing vs with
 |nil=>cases vs with
  |nil=>exact⟨rfl,fun i x v h=>by simp at h⟩
  |cons _ _=>exact h.elim
 |cons x xs f=>cases vs with
  |nil=>exact h.elim
  |cons v vs=>
   obtain⟨c,d⟩:=f h.2
   refine⟨by simp[c],fun i y u hy a=>?_⟩
   cases i with
   |zero=>simp at hy a;subst hy;subst a;exact h.1
   |succ i=>exact d i y u (by simpa using hy) (by simpa using a)
theorem Zu8{f:Func}{s:ChangeSpec}{r:World}{args:Array Value}{ds A:List (DataW H)}{e:List MemPlace}{u:TypeId}(C:DataW.Whole enc P f.params.toList s.vars false W args.toList ds A e)(c:s.vars=[])
  (k:laidOutB P=true) (z:∀t∈f.params.toList,P.readableRec t=true∧t<P.types.size) (g:f.resultTypes.toList=[u]) (L:P.underlying u=some .bool)
  (j:s.fn H (ds++A)={results:=[.lit (.bool true)],args:=ds }) (n:Below W.heap.size W r):s.post enc P f false true false false W args (.bool true) r:=by
 obtain⟨p,q,G,B,rfl,I,J⟩:=id C
 rw[c]at B
 obtain⟨rfl,rfl⟩:=trodVars_none B
 refine⟨ds,[],p++[],[],p,[],C,?_,?_,?_,?_,fun h=>by cases h⟩
 ·rw[j,g]
  have:(Value.bool true).resultList f.resultTypes.size=[.bool true]:=by
   have:f.resultTypes.size=1:=by rw[←HJ,g];rfl
   rw[this];rfl
  rw[this]
  exact trodAll_cons_mk (shut_bool L _) trodAll_mk0
 ·rw[j]
  have key:∀(l:List TypeId) (vs:List Value) (m:List (DataW H)) (ps:List MemPlace),(∀t∈l,P.readableRec t=true∧t<P.types.size)→DataW.TrodAll enc P W 0 (fun _=>true) true l vs m ps→
    DataW.TrodAll enc P r 0 (fun b=>decide (b<W.heap.size)) true l vs m ps:=by
   intro l
   induction l with
   |nil=>intro vs m ps _ h;obtain⟨rfl,rfl,rfl⟩:=trodAll_nil h;exact trodAll_mk0
   |cons t l M=>
    intro vs m ps y h
    have w:=DataW.TrodAll.lt h
    obtain⟨v,N,d,D,a,b,rfl,rfl,rfl,E,F⟩:=trodAll_cons h
    exact trodAll_cons_mk (Below.trod k (y t (by simp)).1 (y t (by simp)).2 E n (fun x hx=>w x (HS _ hx))) (M _ _ _ (fun t K=>y t (by simp[K])) F)
  exact key _ _ _ _ z G
 ·rw[c,j];exact rfl
 ·refine⟨n.os,n.output,fun i hi=>?_⟩
  rw[n.block i hi]
  cases W.heap[i]? with
  |none=>rfl
  |some o=>cases o<;>simp
end
end Go.Proofs.YtjbijbkdiijhaaaGreat
namespace Go.Proofs.YtjbijbkdiijhaaaGreat
set_option linter.all false
open Go Go.Eng
section
variable {H:Type} {enc:TypeId×Value→H} {W:World}
set_option maxRecDepth 100000
theorem ZOk(n:Nat):Cj enc Tryz.prog W n 65 Av:=fun cs x hx=>by
 obtain⟨xs,m,rfl,rfl,c,a,b⟩:=DataW.trod_struct Tryz.underlying65 hx
 obtain⟨v0,h,d⟩:=rf (ED Tryz.underlying3) (b 0 _ rfl) a
 obtain⟨l,i,e⟩:=rf (ED Tryz.underlying3) (b 1 _ rfl) a
 obtain⟨v2,j,f⟩:=rf (ED Tryz.underlying27) (b 2 _ rfl) a
 obtain⟨v3,k,g⟩:=rf (EB Tryz.underlying9) (b 3 _ rfl) a
 have q:=EE (Bv d (Bv e (Bv f (EC g))))
 exact⟨.mk v0 l v2 v3,⟨by rw[c];kernel_rfl,(h.at.app (i.at.app (j.at.app k.at)))⟩,q⟩
theorem ZyE(n:Nat)(h:∀k,k<n→Cj enc Tryz.prog W k 33 Ag):Cj enc Tryz.prog W n 63 NY:=fun cs x hx=>by
 obtain⟨xs,m,rfl,rfl,b,a,c⟩:=DataW.trod_struct Tryz.underlying63 hx
 obtain⟨v0,f,d⟩:=rf (h m (by omega)) (c 0 _ rfl) a
 obtain⟨i,g,e⟩:=rf (h m (by omega)) (c 1 _ rfl) a
 have q:=EE (Bv d (EC e))
 exact⟨.mk v0 i,⟨by rw[b];kernel_rfl,(f.at.app g.at)⟩,q⟩
theorem Ztb(n:Nat)(h:∀k,k<n→Cj enc Tryz.prog W k 33 Ag):Cj enc Tryz.prog W n 61 Dr:=fun cs x hx=>by
 obtain⟨xs,m,rfl,rfl,b,a,c⟩:=DataW.trod_struct Tryz.underlying61 hx
 obtain⟨v0,f,d⟩:=rf (ED Tryz.underlying3) (c 0 _ rfl) a
 obtain⟨i,g,e⟩:=rf (h m (by omega)) (c 1 _ rfl) a
 have q:=EE (Bv d (EC e))
 exact⟨.mk v0 i,⟨by rw[b];kernel_rfl,(f.at.app g.at)⟩,q⟩
theorem WJ(n:Nat):Cj enc Tryz.prog W n 33 Ag:=by
 induction n using Nat.strongRecOn with
 |ind n e=>
 intro cs x hx
 obtain⟨xs,m,rfl,rfl,c,a,b⟩:=DataW.trod_struct Tryz.underlying33 hx
 obtain⟨v0,s,f⟩:=rf (ED Tryz.underlying3) (b 0 _ rfl) a
 obtain⟨A,t,g⟩:=rf (ED Tryz.underlying27) (b 1 _ rfl) a
 obtain⟨v2,u,h⟩:=rf (EB Tryz.underlying9) (b 2 _ rfl) a
 obtain⟨v3,v,i⟩:=rf (Df Tryz.underlying28 (by kernel_rfl:Tryz.prog.cellsOf 33=7) (by decide) (fun x=>by rw[Gv];rfl) (fun k d=>(l5 Gv (e k (by omega))))) (b 3 _ rfl) a
 obtain⟨v4,w,l⟩:=rf (Df Tryz.underlying29 (by kernel_rfl:Tryz.prog.cellsOf 63=14) (by decide) (fun x=>by rw[Lm];rfl) (fun k d=>(l5 Lm (ZyE k (fun j r=>e j (by omega)))))) (b 4 _ rfl) a
 obtain⟨B,y,o⟩:=rf (Df Tryz.underlying30 (by kernel_rfl:Tryz.prog.cellsOf 61=8) (by decide) (fun x=>by rw[K6];rfl) (fun k d=>(l5 K6 (Ztb k (fun j r=>e j (by omega)))))) (b 5 _ rfl) a
 obtain⟨C,z,p⟩:=rf (Df Tryz.underlying31 (by kernel_rfl:Tryz.prog.cellsOf 65=4) (by decide) (fun _=>rfl) (fun k d=>(ZOk k))) (b 6 _ rfl) a
 have q:=EE (Bv f (Bv g (Bv h (Bv i (Bv l (Bv o (EC p)))))))
 exact⟨.mk v0 A v2 v3 v4 B C,⟨by rw[c];kernel_rfl,(s.at.app (t.at.app (u.at.app (v.at.app (w.at.app (y.at.app z.at))))))⟩,q⟩
theorem ZPr(n:Nat):Cj enc Tryz.prog W n 49 HA:=fun cs x hx=>by
 obtain⟨xs,m,rfl,rfl,b,a,c⟩:=DataW.trod_struct Tryz.underlying49 hx
 obtain⟨v0,f,d⟩:=rf (ED Tryz.underlying3) (c 0 _ rfl) a
 obtain⟨h,g,e⟩:=rf (EB Tryz.underlying9) (c 1 _ rfl) a
 have q:=EE (Bv d (EC e))
 exact⟨.mk v0 h,⟨by rw[b];kernel_rfl,(f.at.app g.at)⟩,q⟩
theorem NB(n:Nat):Cj enc Tryz.prog W n 180 Ce:=fun cs x hx=>by
 obtain⟨xs,m,rfl,rfl,b,a,c⟩:=DataW.trod_struct Tryz.underlying180 hx
 obtain⟨v0,f,d⟩:=rf (EB Tryz.underlying9) (c 0 _ rfl) a
 obtain⟨h,g,e⟩:=rf (WJ m) (c 1 _ rfl) a
 have q:=EE (Bv d (EC e))
 exact⟨.mk v0 h,⟨by rw[b];kernel_rfl,(f.at.app g.at)⟩,q⟩
theorem ZOF(n:Nat):Cj enc Tryz.prog W n 51 Az:=fun cs x hx=>by
 obtain⟨xs,m,rfl,rfl,c,a,b⟩:=DataW.trod_struct Tryz.underlying51 hx
 obtain⟨v0,p,d⟩:=rf (ED Tryz.underlying3) (b 0 _ rfl) a
 obtain⟨A,r,e⟩:=rf (EB Tryz.underlying9) (b 1 _ rfl) a
 obtain⟨v2,s,f⟩:=rf (ED Tryz.underlying3) (b 2 _ rfl) a
 obtain⟨v3,t,g⟩:=rf (ED Tryz.underlying3) (b 3 _ rfl) a
 obtain⟨v4,u,h⟩:=rf (ZPr m) (b 4 _ rfl) a
 obtain⟨B,v,i⟩:=rf (EB Tryz.underlying9) (b 5 _ rfl) a
 obtain⟨C,w,j⟩:=rf (Zwl Tryz.underlying4) (b 6 _ rfl) a
 obtain⟨D,y,l⟩:=rf (WJ m) (b 7 _ rfl) a
 obtain⟨E,z,o⟩:=rf (Df Tryz.underlying43 (by kernel_rfl:Tryz.prog.cellsOf 180=8) (by decide) (fun _=>rfl) (fun k F=>(NB k))) (b 8 _ rfl) a
 have q:=EE (Bv d (Bv e (Bv f (Bv g (Bv h (Bv i (Bv j (Bv l (EC o)))))))))
 exact⟨.mk v0 A v2 v3 v4 B C D E,⟨by rw[c];kernel_rfl,(p.at.app (r.at.app (s.at.app (t.at.app (u.at.app (v.at.app (w.at.app (y.at.app z.at))))))))⟩,q⟩
theorem r8(n:Nat):Cj enc Tryz.prog W n 152 CE:=fun cs x hx=>by
 obtain⟨xs,m,rfl,rfl,b,a,c⟩:=DataW.trod_struct Tryz.underlying152 hx
 obtain⟨v0,f,d⟩:=rf (ED Tryz.underlying3) (c 0 _ rfl) a
 obtain⟨h,g,e⟩:=rf (ED Tryz.underlying3) (c 1 _ rfl) a
 have q:=EE (Bv d (EC e))
 exact⟨.mk v0 h,⟨by rw[b];kernel_rfl,(f.at.app g.at)⟩,q⟩
theorem ZLx(n:Nat):Cj enc Tryz.prog W n 45 AU:=fun cs x hx=>by
 obtain⟨xs,m,rfl,rfl,c,a,b⟩:=DataW.trod_struct Tryz.underlying45 hx
 obtain⟨v0,j,e⟩:=rf (EB Tryz.underlying9) (b 0 _ rfl) a
 obtain⟨s,l,f⟩:=rf (Df Tryz.underlying40 (by kernel_rfl:Tryz.prog.cellsOf 51=16) (by decide) (fun _=>rfl) (fun k d=>(ZOF k))) (b 1 _ rfl) a
 obtain⟨v2,o,g⟩:=rf (Df Tryz.underlying41 (by kernel_rfl:Tryz.prog.cellsOf 152=2) (by decide) (fun _=>rfl) (fun k d=>(r8 k))) (b 2 _ rfl) a
 obtain⟨v3,p,h⟩:=rf (Df Tryz.underlying42 (by kernel_rfl:Tryz.prog.cellsOf 9=1) (by decide) (fun _=>rfl) (fun k d=>(EB Tryz.underlying9))) (b 3 _ rfl) a
 obtain⟨v4,r,i⟩:=rf (Df Tryz.underlying43 (by kernel_rfl:Tryz.prog.cellsOf 180=8) (by decide) (fun _=>rfl) (fun k d=>(NB k))) (b 4 _ rfl) a
 have q:=EE (Bv e (Bv f (Bv g (Bv h (EC i)))))
 exact⟨.mk v0 s v2 v3 v4,⟨by rw[c];kernel_rfl,(j.at.app (l.at.app (o.at.app (p.at.app r.at))))⟩,q⟩
theorem ZOp(n:Nat):Cj enc Tryz.prog W n 125 FX:=fun cs x hx=>by
 obtain⟨xs,m,rfl,rfl,b,a,c⟩:=DataW.trod_struct Tryz.underlying125 hx
 obtain⟨v0,g,d⟩:=rf (EB Tryz.underlying9) (c 0 _ rfl) a
 obtain⟨j,h,e⟩:=rf (ED Tryz.underlying3) (c 1 _ rfl) a
 obtain⟨v2,i,f⟩:=rf (Df Tryz.underlying43 (by kernel_rfl:Tryz.prog.cellsOf 180=8) (by decide) (fun _=>rfl) (fun k l=>(NB k))) (c 2 _ rfl) a
 have q:=EE (Bv d (Bv e (EC f)))
 exact⟨.mk v0 j v2,⟨by rw[b];kernel_rfl,(g.at.app (h.at.app i.at))⟩,q⟩
theorem ZNM(n:Nat):Cj enc Tryz.prog W n 89 Cz:=fun cs x hx=>by
 obtain⟨xs,m,rfl,rfl,c,a,b⟩:=DataW.trod_struct Tryz.underlying89 hx
 obtain⟨v0,j,e⟩:=rf (EB Tryz.underlying9) (b 0 _ rfl) a
 obtain⟨s,l,f⟩:=rf (Zwl Tryz.underlying4) (b 1 _ rfl) a
 obtain⟨v2,o,g⟩:=rf (Df Tryz.underlying87 (by kernel_rfl:Tryz.prog.cellsOf 125=3) (by decide) (fun _=>rfl) (fun k d=>(ZOp k))) (b 2 _ rfl) a
 obtain⟨v3,p,h⟩:=rf (Df Tryz.underlying41 (by kernel_rfl:Tryz.prog.cellsOf 152=2) (by decide) (fun _=>rfl) (fun k d=>(r8 k))) (b 3 _ rfl) a
 obtain⟨v4,r,i⟩:=rf (Df Tryz.underlying43 (by kernel_rfl:Tryz.prog.cellsOf 180=8) (by decide) (fun _=>rfl) (fun k d=>(NB k))) (b 4 _ rfl) a
 have q:=EE (Bv e (Bv f (Bv g (Bv h (EC i)))))
 exact⟨.mk v0 s v2 v3 v4,⟨by rw[c];kernel_rfl,(j.at.app (l.at.app (o.at.app (p.at.app r.at))))⟩,q⟩
theorem ZLZ(n:Nat):Cj enc Tryz.prog W n 127 Hq:=fun cs x hx=>by
 obtain⟨xs,m,rfl,rfl,c,a,b⟩:=DataW.trod_struct Tryz.underlying127 hx
 obtain⟨v0,i,d⟩:=rf (EB Tryz.underlying9) (b 0 _ rfl) a
 obtain⟨r,j,e⟩:=rf (EB Tryz.underlying9) (b 1 _ rfl) a
 obtain⟨v2,l,f⟩:=rf (EB Tryz.underlying9) (b 2 _ rfl) a
 obtain⟨v3,o,g⟩:=rf (ED Tryz.underlying3) (b 3 _ rfl) a
 obtain⟨v4,p,h⟩:=rf (Df Tryz.underlying43 (by kernel_rfl:Tryz.prog.cellsOf 180=8) (by decide) (fun _=>rfl) (fun k s=>(NB k))) (b 4 _ rfl) a
 have q:=EE (Bv d (Bv e (Bv f (Bv g (EC h)))))
 exact⟨.mk v0 r v2 v3 v4,⟨by rw[c];kernel_rfl,(i.at.app (j.at.app (l.at.app (o.at.app p.at))))⟩,q⟩
theorem ZO1(n:Nat):Cj enc Tryz.prog W n 93 Dl:=fun cs x hx=>by
 obtain⟨xs,m,rfl,rfl,b,a,c⟩:=DataW.trod_struct Tryz.underlying93 hx
 obtain⟨v0,h,d⟩:=rf (EB Tryz.underlying9) (c 0 _ rfl) a
 obtain⟨l,i,e⟩:=rf (Df Tryz.underlying91 (by kernel_rfl:Tryz.prog.cellsOf 127=5) (by decide) (fun _=>rfl) (fun k g=>(ZLZ k))) (c 1 _ rfl) a
 obtain⟨v2,j,f⟩:=rf (Df Tryz.underlying43 (by kernel_rfl:Tryz.prog.cellsOf 180=8) (by decide) (fun _=>rfl) (fun k g=>(NB k))) (c 2 _ rfl) a
 have q:=EE (Bv d (Bv e (EC f)))
 exact⟨.mk v0 l v2,⟨by rw[b];kernel_rfl,(h.at.app (i.at.app j.at))⟩,q⟩
theorem ZLM(n:Nat):Cj enc Tryz.prog W n 26 Au:=fun cs x hx=>by
 obtain⟨xs,m,rfl,rfl,b,a,c⟩:=DataW.trod_struct Tryz.underlying26 hx
 obtain⟨v0,h,e⟩:=rf (Df Tryz.underlying22 (by kernel_rfl:Tryz.prog.cellsOf 45=5) (by decide) (fun _=>rfl) (fun k d=>(ZLx k))) (c 0 _ rfl) a
 obtain⟨l,i,f⟩:=rf (Df Tryz.underlying23 (by kernel_rfl:Tryz.prog.cellsOf 89=5) (by decide) (fun _=>rfl) (fun k d=>(ZNM k))) (c 1 _ rfl) a
 obtain⟨v2,j,g⟩:=rf (Df Tryz.underlying24 (by kernel_rfl:Tryz.prog.cellsOf 93=3) (by decide) (fun _=>rfl) (fun k d=>(ZO1 k))) (c 2 _ rfl) a
 have q:=EE (Bv e (Bv f (EC g)))
 exact⟨.mk v0 l v2,⟨by rw[b];kernel_rfl,(h.at.app (i.at.app j.at))⟩,q⟩
end
end Go.Proofs.YtjbijbkdiijhaaaGreat
namespace Go.Eng
set_option linter.all false
open Go Go.RowKit
section
variable {σ ξ ρ α β γ:Type}
theorem Eu{B:Nat→Option (Lv Nat ξ ρ)}{N:Nat}(l:List α)(p:α→Bool)(f:Nat→ρ)(e:ξ)
  (hs:∀i x,l[i]?=some x→B i=some (if p x=true then .rt (f i)else .nx (i+1))) (he:B l.length=some (.ex e)) (hN:l.length<N):
  Al B N 0=some (match l.findIdx? p with|some i=>.inr (f i)|none=>.inl e):=by
 suffices H:∀k i N,i+k=l.length→k<N→Al B N i=some (match (l.drop i).findIdx? p with|some j=>.inr (f (i+j))|none=>.inl e)by
  have:=H l.length 0 N (by omega) hN
  simpa using this
 intro k
 induction k with
 |zero=>
  intro i N hi hN
  obtain⟨N,rfl⟩:∃m,N=m+1:=⟨N-1,by omega⟩
  have:i=l.length:=by omega
  subst this
  rw[Al,he,SL]
  rfl
 |succ k b=>
  intro i N hi hN
  obtain⟨N,rfl⟩:∃m,N=m+1:=⟨N-1,by omega⟩
  have a:i<l.length:=by omega
  rw[Al,hs i l[i] (Ye a),HP a,List.findIdx?_cons]
  cases c:p l[i]with
  |true=>simp
  |false=>
   simp only[Yo,YN]
   rw[b (i+1) N (by omega) (by omega)]
   cases(List.drop (i+1) l).findIdx? p with
   |none=>rfl
   |some j=>simp[YI,Ow 1 j]
def Na(R:List α→α→Option ρ):List α→List α→Option ρ
 |_,[]=>none
 |p,x::l=>match R p x with
  |some r=>some r
  |none=>Na R (p++[x]) l
theorem ZzX{B:σ→Option (Lv σ ξ ρ)}{N:Nat}(l:List α)(S:List α→β)(R:List α→α→Option ρ)(mk:Nat→β→σ)(e:β→ξ)
  (hs:∀i x,l[i]?=some x→B (mk i (S (l.take i)))=some (match R (l.take i) x with|some r=>.rt r|none=>.nx (mk (i+1) (S (l.take i++[x])))))
  (he:B (mk l.length (S l))=some (.ex (e (S l)))) (hN:l.length<N):Al B N (mk 0 (S []))=some ((Na R [] l).elim (.inl (e (S l))) .inr):=by
 suffices H:∀k i N,i+k=l.length→k<N→Al B N (mk i (S (l.take i)))=some ((Na R (l.take i) (l.drop i)).elim (.inl (e (S l))) .inr)by
  have:=H l.length 0 N (by omega) hN
  grind
 intro k
 induction k with
 |zero=>
  intro i N hi hN
  obtain⟨N,rfl⟩:∃m,N=m+1:=⟨N-1,by omega⟩
  have:i=l.length:=by omega
  subst this
  rw[Al,L2,he,SL]
  rfl
 |succ k b=>
  intro i N hi hN
  obtain⟨N,rfl⟩:∃m,N=m+1:=⟨N-1,by omega⟩
  have a:i<l.length:=by omega
  rw[Al,hs i l[i] (Ye a),HP a,Na]
  cases R (l.take i) l[i]with
  |some r=>rfl
  |none=>
   have:=b (i+1) N (by omega) (by omega)
   rw[Y6 a]at this
   exact this
theorem zl{R:List α→α→Option ρ}(h:∀p x,R p x=none):∀(l p:List α),Na R p l=none
 |[],p=>rfl
 |x::l,p=>by rw[Na,h];exact zl h l _
theorem FG{B:σ→Option (Lv σ ξ ρ)}{N:Nat}(l:List α)(S:List α→β)(mk:Nat→β→σ)(e:β→ξ)
  (hs:∀i x,l[i]?=some x→B (mk i (S (l.take i)))=some (.nx (mk (i+1) (S (l.take i++[x])))))
  (he:B (mk l.length (S l))=some (.ex (e (S l)))) (hN:l.length<N):Al B N (mk 0 (S []))=some (.inl (e (S l))):=by
 rw[ZzX l S (fun _ _=>none) mk e hs he hN,zl fun _ _=>rfl]
 rfl
theorem Zpa{B:σ→Option (Lv σ ξ ρ)}(I:Nat→σ→Prop)(Q:ξ ⊕ ρ→Prop)
  (h:∀k v,I k v→∃o,B v=some o∧match o with|.nx c=>∃k',k'<k∧I k' c|.ex b=>Q (.inl b)|.rt y=>Q (.inr y)):
  ∀N k v,k<N→I k v→∃o,Al B N v=some o∧Q o
 |0,k,v,d,_=>absurd d (Y4 _)
 |N+1,k,v,d,g=>by
  obtain⟨o,e,a⟩:=h k v g
  rw[Al,e]
  cases o with
  |nx c=>obtain⟨k',i,f⟩:=a;exact Zpa I Q h N k' c (by omega) f
  |ex b=>exact⟨_,rfl,a⟩
  |rt y=>exact⟨_,rfl,a⟩
theorem BM{l:List α}{i:Nat}{x:α}(h:l[i]?=some x):(i:Int)<(l.length:Int):=by
 grind
theorem A1{n:Nat}(h:n<4611686018427387904):n<Am:=h
end
end Go.Eng
namespace Go.Proofs.YtjbijbkdiijhaaaGreat
set_option linter.all false
open Go Go.Eng
def Ok{α:Type}(Q:α→Prop)(o:Option α):Prop:=∃y,o=some y∧Q y
section
variable {α β γ σ ξ ρ:Type} {Q:β→Prop} {P:α→Prop}
theorem AL{y:β}(h:Q y):Ok Q (some y):=⟨y,rfl,h⟩
theorem AN{m:Option α}{k:α→Option β}(h:Ok P m)(a:∀y,P y→Ok Q (k y)):Ok Q (m.bind k):=by
 obtain⟨y,rfl,h⟩:=h
 exact a y h
theorem B0{xs:List α}{i:Nat}{k:α→Option β}(h:i<xs.length)(a:∀x,xs[i]?=some x→x∈xs→Ok Q (k x)):Ok Q (xs[i]?.bind k):=by
 rw[Ye h]
 exact a _ (Ye h) (Gi h)
theorem AP{b:Bool}{x y:Option β}(h:b=true→Ok Q x)(a:b=false→Ok Q y):Ok Q (if b=true then x else y):=by
 cases b
 ·exact a rfl
 ·exact h rfl
theorem AW{c:Prop}{d:Decidable c}{a:Option β}(b:c)(h:Ok Q a):Ok Q (if c then a else none):=by
 rw[Yk b]
 exact h
theorem w8{lo hi:Bd}{n:Nat}{a:Option β}(b:lo.c∧hi.c∧lo.vl 0≤hi.vl n∧hi.vl n≤n)(h:Ok Q a):Ok Q (if lo.c∧hi.c∧lo.vl 0≤hi.vl n∧hi.vl n≤n then a else none):=by
 rw[Yk b]
 exact h
theorem BA{b:Bool}{m:Option α}{x:Option β}(h:b=true→Ok P m)[Inhabited α](d:(b=true→P (m.getD default))→Ok Q x):Ok Q (if(b=true→m.isSome=true)then x else none):=by
 rw[Yk fun e=>by obtain⟨y,h,_⟩:=h e;rw[h];rfl]
 refine d fun e=>?_
 obtain⟨y,a,c⟩:=h e
 rw[a]
 exact c
theorem Gw{b:Bool}{xs:List α}{i:Int}{x:Option β}[Rw α](h:b=true→0≤i∧i<xs.length)(c:(b=true→xs[i.toNat]?=some (xs.getD i.toNat Rw.z)∧xs.getD i.toNat Rw.z∈xs)→Ok Q x):Ok Q (if(b=true→0≤i∧i<xs.length)then x else none):=by
 rw[Yk h]
 refine c fun e=>?_
 have d:=h e
 have a:i.toNat<xs.length:=by omega
 rw[Yg,Ye a]
 exact⟨rfl,Gi a⟩
theorem BC{B:σ→Option (Lv σ ξ ρ)}{N:Nat}{v:σ}(I:σ→Prop)(μ:σ→Nat){A:ξ→Prop}{R:ρ→Prop}(d:I v)(hN:μ v<N)
  (hs:∀v,I v→Ok (fun o=>match o with|.nx c=>I c∧μ c<μ v|.ex b=>A b|.rt y=>R y) (B v)):Ok (Sum.elim A R) (Al B N v):=
 Zpa (fun k v=>I v∧μ v≤k) (Sum.elim A R) (fun k v h=>by
  obtain⟨o,e,a⟩:=hs v h.1
  refine⟨o,e,?_⟩
  cases o with
  |nx c=>exact⟨μ c,by have:=a.2;have:=h.2;omega,a.1,Yf _⟩
  |ex b=>exact a
  |rt y=>exact a) N (μ v) v hN ⟨d,Yf _⟩
theorem BQ{m:Option (ξ ⊕ ρ)}{A:ξ→Prop}{R:ρ→Prop}{f:ξ→Option β}{g:ρ→Option β}(h:Ok (Sum.elim A R) m)(hx:∀b,A b→Ok Q (f b))(a:∀r,R r→Ok Q (g r)):Ok Q (m.bind (Sum.elim f g)):=by
 obtain⟨y,rfl,h⟩:=h
 cases y with
 |inl b=>exact hx b h
 |inr r=>exact a r h
theorem Ok.mono{a:β→Prop}{o:Option β}(h:Ok Q o)(k:∀y,Q y→a y):Ok a o:=by
 obtain⟨y,b,c⟩:=h
 exact⟨y,b,k y c⟩
theorem Ok.some{o:Option β}(h:Ok Q o):o.isSome=true:=by
 obtain⟨y,a,b⟩:=h
 rw[a]
 rfl
end
abbrev Tr{α:Type}:α→Prop:=fun _=>True
abbrev No{α:Type}:α→Prop:=fun _=>False
abbrev Ts{α β:Type}:α ⊕ β→Prop:=Sum.elim Tr Tr
theorem sz0:(⟨#[]⟩:ByteArray).size=0:=rfl
theorem A3{p:Prop}(h:p:=by first|trivial|assumption|contradiction|omega|grind|(simp only[Bd.c,Bd.vl,ByteArray.size_append,ByteArray.size_extract,sz0]at*;grind)):p:=h
theorem Ci{p:Prop}(h:p:=by first|trivial|assumption|contradiction|omega|solve_by_elim|(simp only[Yc,YH,YJ,Kf,Kh,YB,YL]at*;omega)|grind):p:=h
theorem TN(x:Int):Ok Tr (yQ x):=⟨_,rfl,trivial⟩
theorem Uo(x:Int):Ok Tr (yO x):=⟨_,rfl,trivial⟩
theorem xY(x:Val):Ok Tr (Pp x):=⟨_,rfl,trivial⟩
theorem x1(x:Int):Ok Tr (MD x):=⟨_,rfl,trivial⟩
theorem xP(x:Int):Ok Tr (Pn x):=by
 dsimp only[Pn,WY,br,lr,br,rem]
 (repeat' (first|with_reducible (first|refine AP (fun _=>?_) fun _=>?_|refine AL ?_|refine AW ?_ ?_)))<;>exact Ci
theorem gQ(x:ByteArray):Ok Tr (jn x):=by
 dsimp only[jn,pu,Vv,PJ,PA,br,lr,br]
 (repeat' (first|with_reducible (first|refine AP (fun _=>?_) fun _=>?_|refine AL ?_|refine AW ?_ ?_)))<;>exact Ci
theorem ZUE(x:ByteArray)(n:Int):Ok Tr (jg x n):=by
 dsimp only[jg,nU,kt,Vy,UZ,PB,PC,Va,br,lr,br]
 (repeat' (first|with_reducible (first|refine AP (fun _=>?_) fun _=>?_|refine AL ?_|refine AW ?_ ?_)))<;>exact Ci
theorem gK(x:ByteArray):Ok Tr (iT x):=by
 dsimp only[iT,mS,br,lr,br]
 (repeat' (first|with_reducible (first|refine AP (fun _=>?_) fun _=>?_|refine AL ?_|refine AW ?_ ?_)))<;>exact Ci
def LS(x:Fld):Prop:=(x.card≠5→1≤x.card∧x.card≤4∧x.key=0)∧(x.card=5→x.key=1∨x.key=2∨x.key=3∨x.key=4∨x.key=5∨x.key=7)
theorem o91(x:Fld):Ok (fun b=>b=true→LS x) (jj x):=by
 unfold LS
 dsimp only[jj,bM,br,wg,lr,br]
 (repeat' (first|with_reducible (first|refine AP (fun _=>?_) fun _=>?_|refine AL ?_|refine AW ?_ ?_)))<;>(intro h;first|(cases h;done)|(simp only[Yc,YJ,Z9,YB,YL]at*;omega))
theorem g0(x:ByteArray)(i a b:Int)(h:0≤i):Ok Tr (MC x i a b):=by
 dsimp only[MC,WL,vz,lr,BF,Ge]
 (repeat' (first|with_reducible (first|refine AP (fun _=>?_) fun _=>?_|refine AL ?_|refine AW ?_ ?_)))<;>exact Ci
theorem xE(x:ByteArray)(i n:Int)(h:0≤i)(a:i≤2097152)(b:n≤9):Ok Tr (KW x i n):=by
 have q:Ok Ts (Al (Ln x i n) Am 0):=by
  refine BC (fun _:Nat=>True) (fun v:Nat=>(n-v).toNat) trivial ?_ fun v _=>?_
  ·unfold Am
   omega
  dsimp only[Ln,QI,br,vs,Ay,ln,Ai,cl,wa,wi,br]
  (repeat' (first|with_reducible (first|refine AP (fun _=>?_) fun _=>?_|refine AL ?_)|(with_reducible apply AN;(exact g0 _ _ _ _ (by omega));intro _ _)|with_reducible refine AW ?_ ?_))<;>exact Ci
 dsimp only[KW,Wn,Wr,WC,lr,lc]
 (repeat' (first|with_reducible (first|refine AP (fun _=>?_) fun _=>?_|refine AL ?_)|(with_reducible apply BQ;(exact q);all_goals(intro _ _;try dsimp only))|with_reducible refine AW ?_ ?_))<;>exact Ci
set_option maxRecDepth 20000 in
theorem ZUU(x:ByteArray)(i:Int)(h:0≤i)(h1:i<x.size)(h2:x.size≤1048576):Ok (fun y=>0≤y∧y≤4) (Ps x i):=by
 dsimp only[Ps,Wf,br,vg,lr,AO,wi,br,R5]
 (repeat' (first|with_reducible (first|refine AP (fun _=>?_) fun _=>?_|refine AL ?_|refine B0 ?_ fun _ _ _=>?_)|(with_reducible apply AN;(exact g0 _ _ _ _ (by omega));intro _ _)|(with_reducible apply AN;(exact xE _ _ _ (by omega) (by omega) (by omega));intro _ _)|(with_reducible apply BA;(exact fun _=>g0 _ _ _ _ (by omega));intro _)|(with_reducible apply BA;(exact fun _=>xE _ _ _ (by omega) (by omega) (by omega));intro _)|with_reducible refine AW ?_ ?_))<;>exact Ci
theorem Gx:∀a b:List (List D),AR (a++b)=AR a+AR b
 |[],b=>by rw[Gj,AR,YP]
 |x::a,b=>by rw[HM,AR,AR,Gx a b];omega
theorem Vi{α:Type}(e:α→List D){l:List α}{i:Nat}{x:α}(h:l[i]?=some x):AR ((l.take (i+1)).map e)=AR ((l.take i).map e)+As (e x)+1:=by
 obtain⟨a,rfl⟩:=Yb.1 h
 rw[Y6 a,DM,Gx]
 simp only[YW,D4,AR]
 omega
theorem MR{α:Type}(e:α→List D)(l:List α)(i:Nat):AR ((l.take i).map e)≤AR (l.map e):=by
 conv=>rhs;rw[←HR i l,DM,Gx]
 omega
structure SzV (v:Val):Prop where
 t:v.text.size≤1048576
 l:v.list.length≤1048576
 p:v.pairs.length≤1048576
 s:v.slots.length≤1048576
 r:v.raws.length≤1048576
structure SzN (x:Nt):Prop where
 n:x.name.size≤1048576
 v:SzV x.val
abbrev Iv(l:List Nt):Prop:=l.length≤1048576∧∀x∈l,SzN x
structure SzF (x:Fld):Prop where
 n:x.name.size≤1048576
 t:x.type.name.size≤1048576
 u:x.union.size≤1048576
 d:SzV x.dflt
 o:Iv x.notes
structure SzM (x:Msg):Prop where
 n:x.name.size≤1048576
 fl:x.fields.length≤1048576
 f:∀y∈x.fields,SzF y
 r:x.reserved.length≤1048576
 gl:x.gone.length≤1048576
 g:∀y∈x.gone,y.size≤1048576
 o:Iv x.notes
structure SzI (x:Itm):Prop where
 n:x.name.size≤1048576
 o:Iv x.notes
structure SzE (x:Enm):Prop where
 n:x.name.size≤1048576
 il:x.items.length≤1048576
 i:∀y∈x.items,SzI y
 r:x.reserved.length≤1048576
 o:Iv x.notes
structure SzT (x:Mth):Prop where
 n:x.name.size≤1048576
 o:Iv x.notes
structure SzW (x:Svc):Prop where
 n:x.name.size≤1048576
 ml:x.methods.length≤1048576
 m:∀y∈x.methods,SzT y
 o:Iv x.notes
structure SzS (x:Scm):Prop where
 ml:x.messages.length≤1048576
 m:∀y∈x.messages,SzM y
 el:x.enums.length≤1048576
 e:∀y∈x.enums,SzE y
 wl:x.services.length≤1048576
 w:∀y∈x.services,SzW y
theorem Cr{v:Val}(h:As (Ag v)≤1048576):SzV v:=by
 have a:=CB (e:=A8) v.list
 have b:=CB (e:=Ap) v.pairs
 have c:=CB (e:=Aq) v.slots
 have d:=CB (e:=Av) v.raws
 simp only[Ag,As,bk]at h
 constructor<;>omega
theorem xn{v:Val}(h:As (Ag v)≤1048576):0≤v.bits∧v.bits≤18446744073709551615:=by
 simp only[Ag,As,bk]at h
 have:=uU (k:=.u64) (n:=v.bits) (by omega)
 exact this
theorem szN{x:Nt}(h:As (Ce x)≤1048576):SzN x:=by
 have e:As (Ce x)=x.name.size+As (Ag x.val):=by simp only[Ce,Ag,As,bk]
 exact⟨by omega,Cr (by omega)⟩
theorem Mo{l:List Nt}(h:AR (l.map Ce)≤1048576):Iv l:=⟨by have:=CB (e:=Ce) l;omega,fun x hx=>szN (by have:=C2 (e:=Ce) hx;omega)⟩
theorem szF{x:Fld}(h:As (Az x)≤1048576):SzF x:=by
 have e:x.name.size+x.type.name.size+x.union.size+As (Ag x.dflt)+AR (x.notes.map Ce)≤As (Az x):=by
  simp only[Az,Ag,As,bk]
  omega
 exact⟨by omega,by omega,by omega,Cr (by omega),Mo (by omega)⟩
theorem szM{x:Msg}(h:As (AU x)≤1048576):SzM x:=by
 simp only[AU,As,bk]at h
 have a:=CB (e:=Az) x.fields
 have b:=CB (e:=CE) x.reserved
 have c:=CB (e:=Bw) x.gone
 exact⟨by omega,by omega,fun y hy=>szF (by have:=C2 (e:=Az) hy;omega),by omega,by omega,fun y hy=>by have:=C2 (e:=Bw) hy;simp only[Bw,As,bk]at this;omega,Mo (by omega)⟩
theorem szI{x:Itm}(h:As (FX x)≤1048576):SzI x:=by
 simp only[FX,As,bk]at h
 exact⟨by omega,Mo (by omega)⟩
theorem szE{x:Enm}(h:As (Cz x)≤1048576):SzE x:=by
 simp only[Cz,As,bk]at h
 have a:=CB (e:=FX) x.items
 have b:=CB (e:=CE) x.reserved
 exact⟨by omega,by omega,fun y hy=>szI (by have:=C2 (e:=FX) hy;omega),by omega,Mo (by omega)⟩
theorem szT{x:Mth}(h:As (Hq x)≤1048576):SzT x:=by
 simp only[Hq,As,bk]at h
 exact⟨by omega,Mo (by omega)⟩
theorem szW{x:Svc}(h:As (Dl x)≤1048576):SzW x:=by
 simp only[Dl,As,bk]at h
 have a:=CB (e:=Hq) x.methods
 exact⟨by omega,by omega,fun y hy=>szT (by have:=C2 (e:=Hq) hy;omega),Mo (by omega)⟩
theorem Fr{x:Scm}(h:As (Au x)≤1048576):SzS x:=by
 simp only[Au,As,bk]at h
 have a:=CB (e:=AU) x.messages
 have b:=CB (e:=Cz) x.enums
 have c:=CB (e:=Dl) x.services
 exact⟨by omega,fun y hy=>szM (by have:=C2 (e:=AU) hy;omega),by omega,fun y hy=>szE (by have:=C2 (e:=Cz) hy;omega),by omega,fun y hy=>szW (by have:=C2 (e:=Dl) hy;omega)⟩
theorem lU(x:ByteArray):x.data.toList.length=x.size:=by rw[HJ];rfl
theorem B1{n:Nat}(h:n≤2097152):n<Am:=by unfold Am;omega
theorem ZUW(x:ByteArray)(h:x.size≤1048576):Ok Tr (UR x):=by
 have q:Ok Ts (Al (M2 x) Am 0):=by
  refine BC (fun v:Int=>0≤v∧v≤x.size+4) (fun v:Int=>(x.size+4-v).toNat) ⟨by omega,by omega⟩ (B1 (by omega)) fun v a=>?_
  dsimp only[M2,WK,br,vz,vs,Ay,ln,Ai,cl,wi,BF,br]
  (repeat' (first|with_reducible (first|refine AP (fun _=>?_) fun _=>?_|refine AL ?_)|(with_reducible apply AN;(exact ZUU _ _ a.1 Ci h);intro _ _)|with_reducible refine AW ?_ ?_))<;>exact A3
 dsimp only[UR,Wh,WB,Wp,lr,lc]
 (repeat' (first|with_reducible (first|refine AP (fun _=>?_) fun _=>?_|refine AL ?_)|(with_reducible apply BQ;(exact q);all_goals(intro _ _;try dsimp only))|with_reducible refine AW ?_ ?_))<;>exact Ci
theorem qd(x:ByteArray)(h:x.size≤1048576):Ok Tr (Mz x):=by
 dsimp only[Mz,Tq,lr,cl]
 (repeat' (first|with_reducible (first|refine AP (fun _=>?_) fun _=>?_|refine AL ?_)|(with_reducible apply AN;(exact ZUW _ h);intro _ _)|with_reducible refine AW ?_ ?_))<;>exact Ci
theorem UA(x:ByteArray)(h:x.size≤1048576):Ok Tr (iW x):=by
 have hl:=lU x
 have q:Ok Ts (Al (Wm x) Am 1):=by
  refine BC (fun v:Nat=>v≤1048577) (fun v:Nat=>1048577-v) (by omega) (B1 (by omega)) fun v a=>?_
  dsimp only[Wm,lW,br,vz,vs,Ay,ln,Ai,cl,AO,wa,BF,br,ib,Ge]
  (repeat' (first|with_reducible (first|refine AP (fun _=>?_) fun _=>?_|refine AL ?_|refine B0 ?_ fun _ _ _=>?_)|(with_reducible apply AN;(exact TN _);intro _ _)|(with_reducible apply AN;(exact Uo _);intro _ _)|(with_reducible apply BA;(exact fun _=>TN _);intro _)|(with_reducible apply BA;(exact fun _=>Uo _);intro _)|with_reducible refine AW ?_ ?_))<;>exact A3
 dsimp only[iW,mg,oG,oq,br,vz,vy,lr,lc,AO,BF,br,Ge]
 (repeat' (first|with_reducible (first|refine AP (fun _=>?_) fun _=>?_|refine AL ?_)|(with_reducible apply BQ;(exact q);all_goals(intro _ _;try dsimp only))|(with_reducible apply AN;(exact TN _);intro _ _)|(with_reducible apply AN;(exact Uo _);intro _ _)|(with_reducible apply BA;(exact fun _=>TN _);intro _)|(with_reducible apply BA;(exact fun _=>Uo _);intro _)|with_reducible refine AW ?_ ?_))<;>exact Ci
theorem ZVl(x:ByteArray)(h:x.size≤1048576):Ok Tr (iU x):=by
 have hl:=lU x
 have q:Ok (Sum.elim (fun b:ByteArray=>b.size≤1048576) Tr) (Al (Ty x) Am (⟨#[]⟩,0)):=by
  refine BC (fun v:ByteArray×Nat=>v.1.size≤v.2∧v.2≤x.size) (fun v:ByteArray×Nat=>x.size-v.2) ⟨by rw[sz0];omega,by omega⟩ (B1 (by omega)) fun v a=>?_
  obtain⟨v,i⟩:=v
  obtain⟨a,hi⟩:=a
  dsimp only at a hi
  dsimp only[Ty,dA,br,vz,vs,v2,Ay,ln,Ai,ad,cl,wa,ss,BF,br,ib]
  (repeat' (first|with_reducible (first|refine AP (fun _=>?_) fun _=>?_|refine AL ?_|refine B0 ?_ fun _ _ _=>?_)|(with_reducible apply AN;(exact UA _ (by omega));intro _ _)|with_reducible (first|refine w8 ?_ ?_|refine AW ?_ ?_)))<;>exact A3
 dsimp only[iU,aY,cX,dl,br,vz,lr,lc,cl,BF,br]
 (repeat' (first|with_reducible (first|refine AP (fun _=>?_) fun _=>?_|refine AL ?_)|(with_reducible apply BQ;(exact q);all_goals(intro _ _;try dsimp only))|(with_reducible apply AN;(exact UA _ (by assumption));intro _ _)|with_reducible refine AW ?_ ?_))<;>exact Ci
set_option maxRecDepth 20000 in
theorem ZUL(x:ByteArray)(h:x.size≤1048576):Ok (fun y=>y.1.size≤1048576∧y.2.size≤1048576) (jB x):=by
 have hl:=lU x
 have q:Ok (Sum.elim Tr (fun y:ByteArray×ByteArray=>y.1.size≤1048576∧y.2.size≤1048576)) (Al (XE x) Am ((x.size:Int)-1)):=by
  refine BC (fun v:Int=>-1≤v∧v<x.size) (fun v:Int=>(v+1).toNat) ⟨by omega,by omega⟩ (B1 (by omega)) fun v hv=>?_
  dsimp only[XE,b5,br,vs,Ay,ln,Ai,wi,ss,br,R5]
  (repeat' (first|with_reducible (first|refine AP (fun _=>?_) fun _=>?_|refine AL ?_|refine B0 ?_ fun _ _ _=>?_|refine w8 ?_ ?_|refine AW ?_ ?_)))<;>exact A3
 dsimp only[jB,fH,cR,dY,vz,vs,lr,lc,wi,BF]
 (repeat' (first|with_reducible (first|refine AP (fun _=>?_) fun _=>?_|refine AL ?_)|(with_reducible apply BQ;(exact q);all_goals(intro _ _;try dsimp only))|with_reducible refine AW ?_ ?_))<;>exact A3
set_option maxRecDepth 20000 in
theorem qb(x:ByteArray)(h:x.size≤1048576):Ok Tr (jx x):=by
 have q:Ok Ts (Al Xb Am (x,0)):=by
  refine BC (fun v:ByteArray×Nat=>v.1.size≤1048576∧v.2≤120) (fun v:ByteArray×Nat=>120-v.2) ⟨h,by omega⟩ (B1 (by omega)) fun v hv=>?_
  obtain⟨v,i⟩:=v
  obtain⟨hv,hi⟩:=hv
  dsimp only at hv hi
  dsimp only[Xb,eK,br,vs,v2,Ay,ln,Ai,cl,wa,br]
  (repeat' (first|with_reducible (first|refine AP (fun _=>?_) fun _=>?_|refine AL ?_)|(with_reducible apply AN;(exact ZUL _ hv);intro _ _)|(with_reducible apply AN;(exact gK _);intro _ _)|with_reducible refine AW ?_ ?_))<;>exact A3
 dsimp only[jx,a5,a6,gg,br,lr,lc,cl,br]
 (repeat' (first|with_reducible (first|refine AP (fun _=>?_) fun _=>?_|refine AL ?_)|(with_reducible apply BQ;(exact q);all_goals(intro _ _;try dsimp only))|(with_reducible apply AN;(exact ZVl _ h);intro _ _)|with_reducible refine AW ?_ ?_))<;>exact A3
set_option maxRecDepth 20000 in
theorem LQ(x:ByteArray)(h:x.size≤1048576):Ok Tr (jc x):=by
 dsimp only[jc,dH,lr,cl,AO]
 (repeat' (first|with_reducible (first|refine AP (fun _=>?_) fun _=>?_|refine AL ?_)|(with_reducible apply AN;(exact UA _ h);intro _ _)|(with_reducible apply AN;(exact gK _);intro _ _)|(with_reducible apply BA;(exact fun _=>UA _ h);intro _)|(with_reducible apply BA;(exact fun _=>gK _);intro _)|with_reducible refine AW ?_ ?_))<;>exact A3
theorem o86(l:List ByteArray)(x:ByteArray)(h:l.length≤1048576):Ok Tr (Pv l x):=by
 have q:Ok Ts (Al (Nq l x) Am 0):=by
  refine BC (fun v:Nat=>v≤l.length) (fun v:Nat=>l.length-v) (by omega) (B1 (by omega)) fun v a=>?_
  dsimp only[Nq,Xw,br,ix,vz,vs,Ay,ln,Ai,wa,An,br]
  (repeat' (first|with_reducible (first|refine AP (fun _=>?_) fun _=>?_|refine AL ?_|refine B0 ?_ fun _ _ _=>?_|refine AW ?_ ?_)))<;>exact A3
 dsimp only[Pv,Tw,Zf,Xg,lr,lc]
 (repeat' (first|with_reducible (first|refine AP (fun _=>?_) fun _=>?_|refine AL ?_)|(with_reducible apply BQ;(exact q);all_goals(intro _ _;try dsimp only))|with_reducible refine AW ?_ ?_))<;>exact A3
theorem qc(l:List Spn)(x:Int)(h:l.length≤1048576):Ok Tr (i3 l x):=by
 have q:Ok Ts (Al (XW l x) Am 0):=by
  refine BC (fun v:Nat=>v≤l.length) (fun v:Nat=>l.length-v) (by omega) (B1 (by omega)) fun v a=>?_
  dsimp only[XW,bU,br,ix,A0,vz,vs,Ay,ln,Ai,wa,An,br]
  (repeat' (first|with_reducible (first|refine AP (fun _=>?_) fun _=>?_|refine AL ?_|refine B0 ?_ fun _ _ _=>?_|refine Gw ?_ fun _=>?_|refine AW ?_ ?_)))<;>exact A3
 dsimp only[i3,fh,cJ,dJ,lr,lc]
 (repeat' (first|with_reducible (first|refine AP (fun _=>?_) fun _=>?_|refine AL ?_)|(with_reducible apply BQ;(exact q);all_goals(intro _ _;try dsimp only))|with_reducible refine AW ?_ ?_))<;>exact A3
theorem R6(s:Scm)(x:ByteArray)(h:SzS s):Ok (fun y:Int=>y<s.messages.length∧(0≤y→∃m∈s.messages,m.name=x)) (iX s x):=by
 have hm:=h.ml
 have q:Ok (Sum.elim Tr fun y:Int=>y<s.messages.length∧(0≤y→∃m∈s.messages,m.name=x)) (Al (Tj s x) Am 0):=by
  refine BC (fun v:Nat=>v≤s.messages.length) (fun v:Nat=>s.messages.length-v) (by omega) (B1 (by omega)) fun v a=>?_
  dsimp only[Tj,bI,br,ix,vz,wg,vs,Ay,ln,Ai,wa,An,br]
  (repeat' (first|with_reducible (first|refine AP (fun _=>?_) fun _=>?_|refine AL ?_|refine B0 ?_ fun _ _ _=>?_|refine AW ?_ ?_)))<;>first|exact⟨by omega,fun _=>⟨_,by assumption,Y3 (by assumption)⟩⟩|exact A3
 dsimp only[iX,dg,fE,gf,lr,lc]
 (repeat' (first|with_reducible (first|refine AP (fun _=>?_) fun _=>?_|refine AL ?_)|(with_reducible apply BQ;(exact q);all_goals(intro _ _;try dsimp only))|with_reducible refine AW ?_ ?_))<;>first|exact⟨by omega,fun h=>absurd h (by decide)⟩|exact A3
theorem g9(s:Scm)(x:ByteArray)(h:SzS s):Ok (fun y:Int=>y<s.enums.length∧(0≤y→∃m∈s.enums,m.name=x)) (i7 s x):=by
 have hm:=h.el
 have q:Ok (Sum.elim Tr fun y:Int=>y<s.enums.length∧(0≤y→∃m∈s.enums,m.name=x)) (Al (WU s x) Am 0):=by
  refine BC (fun v:Nat=>v≤s.enums.length) (fun v:Nat=>s.enums.length-v) (by omega) (B1 (by omega)) fun v a=>?_
  dsimp only[WU,og,br,ix,vz,wg,vs,Ay,ln,Ai,wa,An,br]
  (repeat' (first|with_reducible (first|refine AP (fun _=>?_) fun _=>?_|refine AL ?_|refine B0 ?_ fun _ _ _=>?_|refine AW ?_ ?_)))<;>first|exact⟨by omega,fun _=>⟨_,by assumption,Y3 (by assumption)⟩⟩|exact A3
 dsimp only[i7,ma,pj,lY,lr,lc]
 (repeat' (first|with_reducible (first|refine AP (fun _=>?_) fun _=>?_|refine AL ?_)|(with_reducible apply BQ;(exact q);all_goals(intro _ _;try dsimp only))|with_reducible refine AW ?_ ?_))<;>first|exact⟨by omega,fun h=>absurd h (by decide)⟩|exact A3
theorem UK(v w:Val)(h:SzV v)(k:SzV w):Ok Tr (jd v w):=by
 obtain⟨_,_,_,_,_⟩:=h
 obtain⟨_,_,_,_,_⟩:=k
 dsimp only[jd,pq,vy,wg,vg,lr,wa,An]
 (repeat' (first|with_reducible (first|refine AP (fun _=>?_) fun _=>?_|refine AL ?_|refine AW ?_ ?_)))<;>exact A3
def qU(v:Val):Prop:=v.list=[]∧v.pairs=[]∧v.slots=[]∧v.raws=[]∧(v.kind=7∨v.kind=8→v.bits=0)∧(¬(v.kind=7∨v.kind=8)→v.text=⟨#[]⟩)
def Og(n:Int)(v:Val):Prop:=1≤n∧n≤9∧v.kind=n∧qU v
theorem ZRl{n:Int}{v:Val}(h:SzV v)(e:Ju n v=some true):Og n v:=by
 obtain⟨p,q,r,s,t⟩:=h
 have k:v.list.length<4611686018427387904:=by omega
 have l:v.pairs.length<4611686018427387904:=by omega
 have m:v.slots.length<4611686018427387904:=by omega
 have o:v.raws.length<4611686018427387904:=by omega
 have hi:MH n=some (decide (1≤n)&&decide (n≤9)):=rfl
 dsimp only[Ju,QF,br,vz,vy,wg,lr,cl,AO,BF,br,Pp,We,vz,vy,wg,lr,An,MD,QJ,lr]at e
 rw[hi]at e
 unfold Og qU
 simp only[Ya]at e
 generalize Mz v.text=w at e
 simp[k,l,m,o]at e
 split at e
 ·cases e
 ·rename_i c
  simp only[not_or,Decidable.not_not,Classical.not_imp,Int.not_lt]at c
  obtain⟨⟨⟨d,f⟩,b⟩,⟨⟨g,i⟩,j⟩,c6⟩:=c
  refine⟨d,f,b,g,i,j,c6,fun a=>?_,fun a=>?_⟩
  ·rw[b]at a
   simp only[a,Yv]at e
   split at e<;>simp_all
  ·rw[b]at a
   simp only[a,YN]at e
   split at e<;>simp_all
theorem TU(n:Int)(v:Val)(h:SzV v):Ok (fun b=>b=true→Og n v) (Ju n v):=by
 have a:=h.t
 have q:Ok Tr (Ju n v):=by
  have c:Ok Tr (MH n):=⟨_,rfl,trivial⟩
  dsimp only[Ju,QF,br,vz,vy,wg,lr,cl,AO,BF,br]
  (repeat' (first|with_reducible (first|refine AP (fun _=>?_) fun _=>?_|refine AL ?_)|(with_reducible apply AN;(exact c);intro _ _)|(with_reducible apply AN;(exact xY _);intro _ _)|(with_reducible apply AN;(exact x1 _);intro _ _)|(with_reducible apply AN;(exact qd _ a);intro _ _)|(with_reducible apply BA;(exact fun _=>c);intro _)|(with_reducible apply BA;(exact fun _=>xY _);intro _)|(with_reducible apply BA;(exact fun _=>x1 _);intro _)|(with_reducible apply BA;(exact fun _=>qd _ a);intro _)|with_reducible refine AW ?_ ?_))<;>exact A3
 obtain⟨b,e,_⟩:=q
 exact⟨b,e,fun d=>ZRl h (d▸e)⟩
theorem yB(v:Val)(h:SzV v):Ok SzV (Po v):=by
 dsimp only[Po,X1,br,wg,lr,AO,br]
 (repeat' (first|with_reducible (first|refine AP (fun _=>?_) fun _=>?_|refine AL ?_)|(with_reducible apply AN;(exact xP _);intro _ _)|(with_reducible apply BA;(exact fun _=>xP _);intro _)|with_reducible refine AW ?_ ?_))<;>first|exact h|exact⟨h.t,h.l,h.p,h.s,h.r⟩
theorem ZVC(x:Nt)(h:SzN x):Ok Tr (jI x):=by
 dsimp only[jI,na,wg,lr,cl,AO]
 (repeat' (first|with_reducible (first|refine AP (fun _=>?_) fun _=>?_|refine AL ?_)|(with_reducible apply AN;(exact gQ _);intro _ _)|(with_reducible apply AN;(exact TU _ _ h.v);intro _ _)|(with_reducible apply BA;(exact fun _=>gQ _);intro _)|(with_reducible apply BA;(exact fun _=>TU _ _ h.v);intro _)|with_reducible refine AW ?_ ?_))<;>exact A3
theorem ZVy(l:List Nt)(n:Int)(h:Iv l):Ok Tr (jH l n):=by
 obtain⟨b,a⟩:=h
 have q:Ok Ts (Al (WX l n) Am 0):=by
  refine BC (fun v:Nat=>v≤l.length) (fun v:Nat=>l.length-v) (by omega) (B1 (by omega)) fun v c=>?_
  dsimp only[WX,oR,br,ix,A0,vz,vs,vg,Ay,ln,Ai,cl,wa,wi,An,br]
  (repeat' (first|with_reducible (first|refine AP (fun _=>?_) fun _=>?_|refine AL ?_|refine B0 ?_ fun _ _ _=>?_)|(with_reducible apply AN;(exact gQ _);intro _ _)|(with_reducible apply AN;(exact ZUE _ _);intro _ _)|(with_reducible apply AN;(exact ZVC _ (a _ (by assumption)));intro _ _)|with_reducible (first|refine Gw ?_ fun _=>?_|refine AW ?_ ?_)))<;>exact A3
 dsimp only[jH,m6,pe,n6,br,vz,lr,lc,An,br]
 (repeat' (first|with_reducible (first|refine AP (fun _=>?_) fun _=>?_|refine AL ?_)|(with_reducible apply BQ;(exact q);all_goals(intro _ _;try dsimp only))|with_reducible refine AW ?_ ?_))<;>exact A3
end Go.Proofs.YtjbijbkdiijhaaaGreat
