import Derived.Test.YtchkcemlglpobaaGreatCs10
import Derived.Test.YtchkcemlglpobaaGreatRows
import Derived.WalkKit
import Derived.ProofKit
import Derived.OpenShut
import Derived.Carry
import Derived.Deep.DeepHandedRow
import Derived.Test.YtchkcemlglpobaaGreatCs11
import Derived.Test.YtchkcemlglpobaaGreatCs23
import Derived.Test.YtchkcemlglpobaaGreatCs00
namespace Go.Proofs.YtchkcemlglpobaaGreat
set_option linter.all false
open Go Go.Eng Go.ChangeShapes Go.WideShapes Go.ChangeAt Go.RowKit
theorem tM{H:Type}(b:List UInt8):Rows.uptoBulk (DataW.lit (H:=H) (.string b))=b.length+1:=by simp only[Rows.uptoBulk]
theorem Zn7{H:Type}(a b:List (DataW H)):Rows.uptoBulk (.slice a b)=Rows.uptoBulkAll a+Rows.uptoBulkAll b+1:=by simp only[Rows.uptoBulk]
theorem Zv9{H:Type}(a:List (DataW H)):Rows.uptoBulk (.agg a)=Rows.uptoBulkAll a+1:=by simp only[Rows.uptoBulk]
def G5(W:World)(ds:List D)(cs:List Value)(o:Nat):Prop:=∀(i:Nat) (d:D),ds[i]?=some d→∃c,cs[o+i]?=some c∧RepD W (· <W.heap.size) d c
def IF(W:World)(ds:List D)(cs:List Value):Prop:=ds.length=cs.length∧G5 W ds cs 0
theorem G5.app{W:World}{ds es:List D}{cs:List Value}{o:Nat}(h:G5 W ds cs o)(k:G5 W es cs (o+ds.length)):G5 W (ds++es) cs o:=fun i d hi=>by
 rcases Ys i ds.length with hl|hl
 ·rw[Yh hl]at hi;exact h i d hi
 ·rw[Yn hl]at hi
  obtain⟨c,a,b⟩:=k _ d hi
  grind
theorem G5.nil{W:World}{cs:List Value}{o:Nat}:G5 W [] cs o:=fun i d h=>by simp at h
theorem IF.at{W:World}{ds:List D}{cs:List Value}{o k:Nat}(h:IF W ds ((cs.drop o).take k)):G5 W ds cs o:=fun i d hi=>by
 obtain⟨c,a,b⟩:=h.2 i d hi
 grind
def rk(k:IntKind)(n:Int):Nat:=if Lit.wf (.int k n)=true then 0 else 1000000000000
theorem ZNv{k:IntKind}{n:Int}(h:rk k n≤1048576):k.min≤n∧n≤k.max:=by
 unfold rk at h
 split at h
 ·rename_i a
  unfold Lit.wf at a
  rw[Bool.and_eq_true]at a
  exact⟨of_decide_eq_true a.1,of_decide_eq_true a.2⟩
 ·omega
mutual
def bk:D→Nat
 |.int k n=>rk k n
 |.bool _=>0
 |.str s=>s.size
 |.list es=>Bh es
 |.map _ es=>Bh es
def Ax:List D→Nat
 |[]=>0
 |d::l=>bk d+Ax l
def Bh:List (List D)→Nat
 |[]=>0
 |e::l=>Ax e+1+Bh l
end
theorem Mn:∀a b:List D,Ax (a++b)=Ax a+Ax b
 |[],b=>by rw[FO,Ax,YD]
 |d::a,b=>by rw[K2,Ax,Ax,Mn a b,Yt]
theorem bx(d:D):Ax [d]=bk d:=by rw[Ax,Ax,Ed]
theorem C2{α:Type}{e:α→List D}:∀l:List α,l.length≤Bh (l.map e)
 |[]=>EG _
 |x::l=>by have:=C2 (e:=e) l;rw[YS,Bh,YV];omega
theorem CF{α:Type}{e:α→List D}{x:α}:∀{l:List α},x∈l→Ax (e x)+1≤Bh (l.map e)
 |y::l,h=>by
  rw[YS,Bh]
  cases Yw.1 h with
  |inl h=>subst h;omega
  |inr h=>have:=CF (e:=e) h;omega
section
variable {H:Type} (enc:TypeId×Value→H) (P:Program) (W:World)
def BV{α:Type}(n:Nat)(t:TypeId)(e:α→List D):Prop:=
 ∀cs x,DataW.trod enc P W 0 (fun _=>true) true n t cs=some x→∃v:α,IF W (e v) cs∧Ax (e v)+1≤Rows.uptoBulk x.1
end
section
variable {H:Type} {enc:TypeId×Value→H} {P:Program} {W:World} {n:Nat} {t:TypeId}
theorem aQ(d:DataW H):1≤Rows.uptoBulk d:=by cases d<;>(try (rename_i l;cases l))<;>simp[Rows.uptoBulk]
theorem Mb{d:D}{c:Value}(h:RepD W (· <W.heap.size) d c):IF W [d] [c]:=⟨rfl,fun i d' hi=>by
 cases i with
 |zero=>cases hi;exact⟨c,rfl,h⟩
 |succ i=>simp at hi⟩
theorem DE{k:IntKind}(a:P.underlying t=some (.int k)):BV enc P W n t (fun v:Int=>[.int k v]):=fun cs x c=>by
 obtain⟨m,rfl,rfl,b⟩:=DataW.trod_int a c
 refine⟨m,Mb (.int _ _),?_⟩
 rw[bx,bk,rk,if_pos b]
 exact aQ _
theorem uK(a:P.underlying t=some .bool):BV enc P W n t (fun v:Bool=>[.bool v]):=fun cs x b=>by
 obtain⟨m,rfl,rfl⟩:=DataW.trod_bool a b
 exact⟨m,Mb (.bool _),aQ _⟩
theorem DF(a:P.underlying t=some .string):BV enc P W n t (fun v:ByteArray=>[.str v]):=fun cs x b=>by
 obtain⟨m,rfl,rfl,_⟩:=DataW.trod_string a b
 refine⟨m,Mb (.str _),?_⟩
 rw[tM,bx]
 exact Ye _
theorem vV{α:Type}{e:α→List D}:∀(l:List α) (xs:List (DataW H×List MemPlace)),l.length=xs.length→(∀(i:Nat) (v:α),l[i]?=some v→∃y:DataW H×List MemPlace,xs[i]?=some y∧Ax (e v)+1≤Rows.uptoBulk y.1)→Bh (l.map e)≤Rows.uptoBulkAll (xs.map (·.1))
 |[],_,_,_=>EG _
 |x::l,[],h,_=>by cases h
 |x::l,y::xs,h,k=>by
  have:=vV l xs (KX h) (fun i v hi=>k (i+1) v hi)
  obtain⟨c,a,b⟩:=k 0 x rfl
  cases a
  rw[YS,YS,Bh]
  simp only[Rows.uptoBulkAll]
  omega
theorem uJ{α:Type}{Q:Nat→α→Prop}:∀(len:Nat),(∀i,i<len→∃v,Q i v)→∃l:List α,l.length=len∧∀i v,l[i]?=some v→Q i v
 |0,_=>⟨[],rfl,fun i v h=>by simp at h⟩
 |len+1,h=>by
  obtain⟨l,a,b⟩:=uJ len (fun i hi=>h i (by omega))
  obtain⟨v,c⟩:=h len (by omega)
  refine⟨l++[v],by simp[a],fun i w hi=>?_⟩
  grind
theorem Cw{α:Type}{e:TypeId}{b:α→List D}{sz:Nat}(V:P.underlying t=some (.slice e))(E:P.cellsOf e=sz)(U:sz≠0)(hl:∀x,(b x).length=sz)(h:∀m,m<n→BV enc P W m e b):
  BV enc P W n t (fun l:List α=>[.list (l.map b)]):=fun cs x X=>by
 rcases DataW.trod_slice V X with⟨rfl,rfl⟩|⟨a,len,cap,g,rest,m,rfl,rfl,rfl,Z,z,R,T,hi,_,_⟩
 ·exact⟨[],Mb .nil,aQ _⟩
 ·have k:∀i,i<len→∃v:α,∃y f,g[i]?=some y∧W.cells? 0 (a.add (i*sz)) sz=some f∧IF W (b v) f∧Ax (b v)+1≤Rows.uptoBulk y.1:=fun i B=>by
   have I:=hi i B
   rw[Yb (by omega),E]at I
   obtain⟨f,M,N⟩:=jM.1 I
   obtain⟨v,O,Q⟩:=h m (by omega) f _ N
   exact⟨v,_,f,Yb (by omega),M,O,Q⟩
  obtain⟨l,A,r⟩:=uJ len k
  have cell:∀(i j:Nat) (e':List D) (x:D),(l.map b)[i]?=some e'→e'[j]?=some x→∃c,W.cell? (a.add (i*sz+j))=some c∧RepD W (· <W.heap.size) x c:=fun i j e' x d o=>by
   rw[Yx]at d
   cases s:l[i]? with
   |none=>rw[s]at d;cases d
   |some v=>
    rw[s]at d
    cases d
    obtain⟨y,f,p,q,F,G⟩:=r i v s
    obtain⟨c,H,J⟩:=F.2 j x o
    rw[YD]at H
    obtain⟨_,Y,K⟩:=World.cells?_some q
    have u:j<sz:=by
     rw[←hl v]
     rcases Ys j (b v).length with h|h
     ·exact h
     ·rw[YE h]at o;cases o
    refine⟨c,?_,J⟩
    rw[←Go.Eng.add_add,K j u,H]
  refine⟨l,Mb ?_,?_⟩
  ·have hlen:(l.map b).length=len:=by simp[A]
   have:=RepD.list (w:=W) (S:=(· <W.heap.size)) (l.map b) a sz cap (fun i j=>(W.cell? (a.add (i*sz+j))).getD undef) (fun C=>by
     have L:0<len:=by
      rcases TF len with h|h
      ·exact absurd (YI (hlen.trans h)) C
      ·exact h
     obtain⟨v,y,f,_,q,_⟩:=k 0 L
     have:=World.cells?_block q (by omega)
     rw[FS]at this
     rw[←Go.Eng.block_add a 0];exact this)
    (by rw[hlen];exact z) (fun e' he=>by obtain⟨y,_,rfl⟩:=Yy.1 he;exact hl y)
    (fun i j e' x d o=>by obtain⟨c,p,_⟩:=cell i j e' x d o;rw[p];rfl)
    (fun i j e' x d o=>by obtain⟨c,p,q⟩:=cell i j e' x d o;rw[p];exact q)
   rw[hlen]at this
   exact this
  ·rw[Zn7,bx,bk]
   have:=vV (e:=b) l g (by omega) (fun i v s=>by
    obtain⟨y,f,p,q,F,G⟩:=r i v s
    exact⟨y,p,G⟩)
   omega
def FB(xs:List (DataW H×List MemPlace))(i:Nat):Nat:=Rows.uptoBulkAll ((xs.drop i).map (·.1))
theorem Bk{xs:List (DataW H×List MemPlace)}{i:Nat}{a b:List D}(h:Ax a+1+FB xs (i+1)≤FB xs i)(k:Ax b≤FB xs (i+1)):Ax (a++b)≤FB xs i:=by
 rw[Mn];omega
theorem DG{xs:List (DataW H×List MemPlace)}{i:Nat}{a:List D}(h:Ax a+1+FB xs (i+1)≤FB xs i):Ax a≤FB xs i:=by omega
theorem DB{xs:List (DataW H×List MemPlace)}{a:List D}(h:Ax a≤FB xs 0):Ax a+1≤Rows.uptoBulk (.agg (xs.map (·.1))):=by
 rw[Zv9];exact Nat.succ_le_succ h
theorem ZxP{α:Type}{e:α→List D}{m i:Nat}{c:TypeId}{a:List Value}{xs:List (DataW H×List MemPlace)}(h:BV enc P W m c e)(b:DataW.trod enc P W 0 (fun _=>true) true m c a=xs[i]?)(hi:i<xs.length):
  ∃v,IF W (e v) a∧Ax (e v)+1+FB xs (i+1)≤FB xs i:=by
 rw[Yb hi]at b
 obtain⟨v,d,f⟩:=h _ _ b
 refine⟨v,d,?_⟩
 unfold FB
 rw[Y9 hi,YS]
 simp only[Rows.uptoBulkAll]
 omega
theorem rf{α:Type}{e:α→List D}{m i k:Nat}{b:TypeId}{a:List Value}{xs:List (DataW H×List MemPlace)}(h:BV enc P W m b e)(c:DataW.trod enc P W 0 (fun _=>true) true m b a=xs[i]?)(d:xs.length=k)(hi:Nat.blt i k=true:=by kernel_rfl):
  ∃v,IF W (e v) a∧Ax (e v)+1+FB xs (i+1)≤FB xs i:=ZxP h c (by rw[d];exact Yc hi)
theorem eX{α:Type}{e e':α→List D}(he:∀x,e x=e' x)(h:BV enc P W n t e'):BV enc P W n t e:=fun cs x a=>by
 obtain⟨v,b,c⟩:=h cs x a
 grind
theorem uF{α:Type}{e:α→List D}{q:Array Field}{r:Reach}{b:Nat}{v:Value}{d:DataW H}{p:List MemPlace}(rd:∀n,BV enc P W n t e)(w:P.underlying t=some (.struct q))(z:Value.okWide P W r b t v)
  (h:DataW.Trod enc P W 0 (fun _=>true) true t v d p):∃x:α,(∀m l,RepA W (· <W.heap.size) (fun _=>⟨0,false,0,0,[]⟩) m l (.agg ((e x).map .d)) v)∧Ax (e x)+1≤Rows.uptoBulk d:=by
 obtain⟨cs,rfl,_⟩:=okWide_struct w z
 obtain⟨n,u⟩:=h
 obtain⟨x,k,s⟩:=rd n _ _ u
 have hl:(e x).length=cs.size:=by rw[k.1];simp[Value.cells]
 have key:∀(i:Nat) (c:Value),cs[i]?=some c→∃d,(e x)[i]?=some d∧RepD W (· <W.heap.size) d c:=fun i c f=>by
  have g:i<(e x).length:=by
   grind
  obtain⟨j,a,o⟩:=k.2 i _ (Yb g)
  have:j=c:=by
   rw[YD]at a
   have:cs.toList[i]?=some j:=a
   grind
  grind
 refine⟨x,fun m l=>.agg _ _ (by rw[Yp,hl]) (fun i c f=>?_) (fun i y c hy f=>?_),s⟩
 ·obtain⟨d,_,a⟩:=key i c f;exact a.one
 ·obtain⟨d,a,o⟩:=key i c f
  rw[Yx,a]at hy
  cases hy
  exact .d _ _ o
theorem zx{r:Reach}{a:Nat}{v:Value}{d:DataW H}{p:List MemPlace}(e:P.underlying t=some .string)(g:Value.okWide P W r a t v)(h:DataW.Trod enc P W 0 (fun _=>true) true t v d p):
  ∃x:ByteArray,(∀S Hp m l,RepA W S Hp m l (.d (.str x)) v)∧x.size+1≤Rows.uptoBulk d:=by
 obtain⟨x,rfl⟩:=okWide_string e g
 obtain⟨n,f⟩:=h
 obtain⟨s,b,c,_⟩:=DataW.trod_string e f
 have b:x=s:=by simpa[Value.cells]using b
 subst b
 have c:d=.lit (.string x.data.toList):=congrArg Prod.fst c
 subst c
 refine⟨x,fun _ _ _ _=>.d _ _ (.str _),?_⟩
 rw[tM]
 exact Ye _
def jx:Hp:=fun _=>⟨0,false,0,0,[]⟩
theorem ok0(m:Mu):Ok 0 jx m (· <W.heap.size) W:=⟨fun _ h=>h,fun _ _ h=>(by cases h),fun _ _ h=>(by cases h),fun _ _ _ _ h=>(by cases h),fun _ _ h=>(by cases h),⟨fun _ _ h=>(by cases h),fun _ _ h=>(by cases h),fun _ _ _ _ h=>(by cases h)⟩⟩
def qc(w:World)(S:Nat→Prop)(Hp:Hp)(m:Mu)(l:Nat):List AV→List Value→Prop
 |[],[]=>True
 |x::xs,v::vs=>RepA w S Hp m l x v∧qc w S Hp m l xs vs
 |_,_=>False
theorem zR{w:World}{S:Nat→Prop}{Hp:Hp}{m:Mu}{l:Nat}{xs:List AV}{vs:List Value}(h:qc w S Hp m l xs vs):JS w S Hp m l xs vs.toArray:=by
 suffices b:xs.length=vs.length∧∀(i:Nat) (x:AV) (v:Value),xs[i]?=some x→vs[i]?=some v→RepA w S Hp m l x v by
  exact⟨by simpa using b.1,fun i x v f e=>b.2 i x v f (by simpa using e)⟩
 induction xs generalizing vs with
 |nil=>cases vs with
  |nil=>exact⟨rfl,fun i x v h=>by simp at h⟩
  |cons _ _=>exact h.elim
 |cons x xs g=>cases vs with
  |nil=>exact h.elim
  |cons v vs=>
   obtain⟨c,d⟩:=g h.2
   refine⟨by simp[c],fun i y u hy a=>?_⟩
   cases i with
   |zero=>simp at hy a;subst hy;subst a;exact h.1
   |succ i=>exact d i y u (by simpa using hy) (by simpa using a)
theorem ZrE{f:Func}{s:ChangeSpec}{n:World}{args:Array Value}{ds z:List (DataW H)}{e:List MemPlace}{u:TypeId}(B:DataW.Whole enc P f.params.toList s.vars false W args.toList ds z e)(c:s.vars=[])
  (k:laidOutB P=true) (y:∀t∈f.params.toList,P.readableRec t=true∧t<P.types.size) (g:f.resultTypes.toList=[u]) (K:P.underlying u=some .bool)
  (j:s.fn H (ds++z)={results:=[.lit (.bool true)],args:=ds }) (m:Below W.heap.size W n):s.post enc P f false true false false W args (.bool true) n:=by
 obtain⟨p,q,F,A,rfl,G,I⟩:=id B
 rw[c]at A
 obtain⟨rfl,rfl⟩:=trodVars_none A
 refine⟨ds,[],p++[],[],p,[],B,?_,?_,?_,?_,fun h=>by cases h⟩
 ·rw[j,g]
  have:(Value.bool true).resultList f.resultTypes.size=[.bool true]:=by
   have:f.resultTypes.size=1:=by rw[←YJ,g];rfl
   rw[this];rfl
  rw[this]
  exact trodAll_cons_mk (shut_bool K _) trodAll_mk0
 ·rw[j]
  have key:∀(l:List TypeId) (vs:List Value) (es:List (DataW H)) (ps:List MemPlace),(∀t∈l,P.readableRec t=true∧t<P.types.size)→DataW.TrodAll enc P W 0 (fun _=>true) true l vs es ps→
    DataW.TrodAll enc P n 0 (fun b=>decide (b<W.heap.size)) true l vs es ps:=by
   intro l
   induction l with
   |nil=>intro vs es ps _ h;obtain⟨rfl,rfl,rfl⟩:=trodAll_nil h;exact trodAll_mk0
   |cons t l M=>
    intro vs es ps w h
    have r:=DataW.TrodAll.lt h
    obtain⟨v,N,d,C,a,b,rfl,rfl,rfl,D,E⟩:=trodAll_cons h
    exact trodAll_cons_mk (Below.trod k (w t (by simp)).1 (w t (by simp)).2 D m (fun x L=>r x (HI _ L))) (M _ _ _ (fun t J=>w t (by simp[J])) E)
  exact key _ _ _ _ y F
 ·rw[c,j];exact rfl
 ·refine⟨m.os,m.output,fun i hi=>?_⟩
  rw[m.block i hi]
  cases W.heap[i]? with
  |none=>rfl
  |some o=>cases o<;>simp
end
end Go.Proofs.YtchkcemlglpobaaGreat
namespace Go.Proofs.YtchkcemlglpobaaGreat
set_option linter.all false
open Go Go.Eng
section
variable {H:Type} {enc:TypeId×Value→H} {W:World}
set_option maxRecDepth 100000
theorem ZJr(n:Nat):BV enc Tryz.prog W n 73 Az:=fun cs x h=>by
 obtain⟨xs,m,rfl,rfl,c,a,b⟩:=DataW.trod_struct Tryz.underlying73 h
 obtain⟨v0,i,d⟩:=rf (DE Tryz.underlying3) (b 0 _ rfl) a
 obtain⟨o,j,e⟩:=rf (DE Tryz.underlying3) (b 1 _ rfl) a
 obtain⟨v2,k,f⟩:=rf (DE Tryz.underlying29) (b 2 _ rfl) a
 obtain⟨v3,l,g⟩:=rf (DF Tryz.underlying9) (b 3 _ rfl) a
 have q:=DB (Bk d (Bk e (Bk f (DG g))))
 exact⟨.mk v0 o v2 v3,⟨by rw[c];kernel_rfl,(i.at.app (j.at.app (k.at.app l.at)))⟩,q⟩
theorem Zva(n:Nat)(h:∀k,k<n→BV enc Tryz.prog W k 35 Ag):BV enc Tryz.prog W n 71 SS:=fun cs x f=>by
 obtain⟨xs,m,rfl,rfl,b,a,c⟩:=DataW.trod_struct Tryz.underlying71 f
 obtain⟨v0,g,d⟩:=rf (h m (by omega)) (c 0 _ rfl) a
 obtain⟨j,i,e⟩:=rf (h m (by omega)) (c 1 _ rfl) a
 have q:=DB (Bk d (DG e))
 exact⟨.mk v0 j,⟨by rw[b];kernel_rfl,(g.at.app i.at)⟩,q⟩
theorem Zsa(n:Nat)(h:∀k,k<n→BV enc Tryz.prog W k 35 Ag):BV enc Tryz.prog W n 63 Cz:=fun cs x f=>by
 obtain⟨xs,m,rfl,rfl,b,a,c⟩:=DataW.trod_struct Tryz.underlying63 f
 obtain⟨v0,g,d⟩:=rf (DE Tryz.underlying3) (c 0 _ rfl) a
 obtain⟨j,i,e⟩:=rf (h m (by omega)) (c 1 _ rfl) a
 have q:=DB (Bk d (DG e))
 exact⟨.mk v0 j,⟨by rw[b];kernel_rfl,(g.at.app i.at)⟩,q⟩
theorem bW(n:Nat):BV enc Tryz.prog W n 35 Ag:=by
 induction n using Nat.strongRecOn with
 |ind n e=>
 intro cs x s
 obtain⟨xs,m,rfl,rfl,c,a,b⟩:=DataW.trod_struct Tryz.underlying35 s
 obtain⟨v0,t,f⟩:=rf (DE Tryz.underlying3) (b 0 _ rfl) a
 obtain⟨B,u,g⟩:=rf (DE Tryz.underlying29) (b 1 _ rfl) a
 obtain⟨v2,v,h⟩:=rf (DF Tryz.underlying9) (b 2 _ rfl) a
 obtain⟨v3,w,i⟩:=rf (Cw Tryz.underlying30 (by kernel_rfl:Tryz.prog.cellsOf 35=7) (by decide) (fun x=>by rw[FZ];rfl) (fun k d=>(eX FZ (e k (by omega))))) (b 3 _ rfl) a
 obtain⟨v4,y,l⟩:=rf (Cw Tryz.underlying31 (by kernel_rfl:Tryz.prog.cellsOf 71=14) (by decide) (fun x=>by rw[Ix];rfl) (fun k d=>(eX Ix (Zva k (fun j r=>e j (by omega)))))) (b 4 _ rfl) a
 obtain⟨v5,z,o⟩:=rf (Cw Tryz.underlying32 (by kernel_rfl:Tryz.prog.cellsOf 63=8) (by decide) (fun x=>by rw[F0];rfl) (fun k d=>(eX F0 (Zsa k (fun j r=>e j (by omega)))))) (b 5 _ rfl) a
 obtain⟨C,A,p⟩:=rf (Cw Tryz.underlying33 (by kernel_rfl:Tryz.prog.cellsOf 73=4) (by decide) (fun _=>rfl) (fun k d=>(ZJr k))) (b 6 _ rfl) a
 have q:=DB (Bk f (Bk g (Bk h (Bk i (Bk l (Bk o (DG p)))))))
 exact⟨.mk v0 B v2 v3 v4 v5 C,⟨by rw[c];kernel_rfl,(t.at.app (u.at.app (v.at.app (w.at.app (y.at.app (z.at.app A.at))))))⟩,q⟩
theorem ZJo(n:Nat):BV enc Tryz.prog W n 53 G7:=fun cs x f=>by
 obtain⟨xs,m,rfl,rfl,b,a,c⟩:=DataW.trod_struct Tryz.underlying53 f
 obtain⟨v0,g,d⟩:=rf (DE Tryz.underlying3) (c 0 _ rfl) a
 obtain⟨i,h,e⟩:=rf (DF Tryz.underlying9) (c 1 _ rfl) a
 have q:=DB (Bk d (DG e))
 exact⟨.mk v0 i,⟨by rw[b];kernel_rfl,(g.at.app h.at)⟩,q⟩
theorem Kd(n:Nat):BV enc Tryz.prog W n 135 AJ:=fun cs x f=>by
 obtain⟨xs,m,rfl,rfl,b,a,c⟩:=DataW.trod_struct Tryz.underlying135 f
 obtain⟨v0,g,d⟩:=rf (DF Tryz.underlying9) (c 0 _ rfl) a
 obtain⟨i,h,e⟩:=rf (bW m) (c 1 _ rfl) a
 have q:=DB (Bk d (DG e))
 exact⟨.mk v0 i,⟨by rw[b];kernel_rfl,(g.at.app h.at)⟩,q⟩
theorem ZG7(n:Nat):BV enc Tryz.prog W n 55 Ap:=fun cs x p=>by
 obtain⟨xs,m,rfl,rfl,c,a,b⟩:=DataW.trod_struct Tryz.underlying55 p
 obtain⟨v0,r,d⟩:=rf (DE Tryz.underlying3) (b 0 _ rfl) a
 obtain⟨B,s,e⟩:=rf (DF Tryz.underlying9) (b 1 _ rfl) a
 obtain⟨v2,t,f⟩:=rf (DE Tryz.underlying3) (b 2 _ rfl) a
 obtain⟨v3,u,g⟩:=rf (DE Tryz.underlying3) (b 3 _ rfl) a
 obtain⟨v4,v,h⟩:=rf (ZJo m) (b 4 _ rfl) a
 obtain⟨v5,w,i⟩:=rf (DF Tryz.underlying9) (b 5 _ rfl) a
 obtain⟨C,y,j⟩:=rf (uK Tryz.underlying4) (b 6 _ rfl) a
 obtain⟨D,z,l⟩:=rf (bW m) (b 7 _ rfl) a
 obtain⟨E,A,o⟩:=rf (Cw Tryz.underlying47 (by kernel_rfl:Tryz.prog.cellsOf 135=8) (by decide) (fun _=>rfl) (fun k F=>(Kd k))) (b 8 _ rfl) a
 have q:=DB (Bk d (Bk e (Bk f (Bk g (Bk h (Bk i (Bk j (Bk l (DG o)))))))))
 exact⟨.mk v0 B v2 v3 v4 v5 C D E,⟨by rw[c];kernel_rfl,(r.at.app (s.at.app (t.at.app (u.at.app (v.at.app (w.at.app (y.at.app (z.at.app A.at))))))))⟩,q⟩
theorem xh(n:Nat):BV enc Tryz.prog W n 209 AY:=fun cs x f=>by
 obtain⟨xs,m,rfl,rfl,b,a,c⟩:=DataW.trod_struct Tryz.underlying209 f
 obtain⟨v0,g,d⟩:=rf (DE Tryz.underlying3) (c 0 _ rfl) a
 obtain⟨i,h,e⟩:=rf (DE Tryz.underlying3) (c 1 _ rfl) a
 have q:=DB (Bk d (DG e))
 exact⟨.mk v0 i,⟨by rw[b];kernel_rfl,(g.at.app h.at)⟩,q⟩
theorem ZGA(n:Nat):BV enc Tryz.prog W n 49 AA:=fun cs x j=>by
 obtain⟨xs,m,rfl,rfl,c,a,b⟩:=DataW.trod_struct Tryz.underlying49 j
 obtain⟨v0,l,e⟩:=rf (DF Tryz.underlying9) (b 0 _ rfl) a
 obtain⟨t,o,f⟩:=rf (Cw Tryz.underlying44 (by kernel_rfl:Tryz.prog.cellsOf 55=16) (by decide) (fun _=>rfl) (fun k d=>(ZG7 k))) (b 1 _ rfl) a
 obtain⟨v2,p,g⟩:=rf (Cw Tryz.underlying45 (by kernel_rfl:Tryz.prog.cellsOf 209=2) (by decide) (fun _=>rfl) (fun k d=>(xh k))) (b 2 _ rfl) a
 obtain⟨v3,r,h⟩:=rf (Cw Tryz.underlying46 (by kernel_rfl:Tryz.prog.cellsOf 9=1) (by decide) (fun _=>rfl) (fun k d=>(DF Tryz.underlying9))) (b 3 _ rfl) a
 obtain⟨v4,s,i⟩:=rf (Cw Tryz.underlying47 (by kernel_rfl:Tryz.prog.cellsOf 135=8) (by decide) (fun _=>rfl) (fun k d=>(Kd k))) (b 4 _ rfl) a
 have q:=DB (Bk e (Bk f (Bk g (Bk h (DG i)))))
 exact⟨.mk v0 t v2 v3 v4,⟨by rw[c];kernel_rfl,(l.at.app (o.at.app (p.at.app (r.at.app s.at))))⟩,q⟩
theorem ZHZ(n:Nat):BV enc Tryz.prog W n 99 EW:=fun cs x g=>by
 obtain⟨xs,m,rfl,rfl,b,a,c⟩:=DataW.trod_struct Tryz.underlying99 g
 obtain⟨v0,h,d⟩:=rf (DF Tryz.underlying9) (c 0 _ rfl) a
 obtain⟨l,i,e⟩:=rf (DE Tryz.underlying3) (c 1 _ rfl) a
 obtain⟨v2,j,f⟩:=rf (Cw Tryz.underlying47 (by kernel_rfl:Tryz.prog.cellsOf 135=8) (by decide) (fun _=>rfl) (fun k o=>(Kd k))) (c 2 _ rfl) a
 have q:=DB (Bk d (Bk e (DG f)))
 exact⟨.mk v0 l v2,⟨by rw[b];kernel_rfl,(h.at.app (i.at.app j.at))⟩,q⟩
theorem ZH9(n:Nat):BV enc Tryz.prog W n 97 AO:=fun cs x j=>by
 obtain⟨xs,m,rfl,rfl,c,a,b⟩:=DataW.trod_struct Tryz.underlying97 j
 obtain⟨v0,l,e⟩:=rf (DF Tryz.underlying9) (b 0 _ rfl) a
 obtain⟨t,o,f⟩:=rf (uK Tryz.underlying4) (b 1 _ rfl) a
 obtain⟨v2,p,g⟩:=rf (Cw Tryz.underlying95 (by kernel_rfl:Tryz.prog.cellsOf 99=3) (by decide) (fun _=>rfl) (fun k d=>(ZHZ k))) (b 2 _ rfl) a
 obtain⟨v3,r,h⟩:=rf (Cw Tryz.underlying45 (by kernel_rfl:Tryz.prog.cellsOf 209=2) (by decide) (fun _=>rfl) (fun k d=>(xh k))) (b 3 _ rfl) a
 obtain⟨v4,s,i⟩:=rf (Cw Tryz.underlying47 (by kernel_rfl:Tryz.prog.cellsOf 135=8) (by decide) (fun _=>rfl) (fun k d=>(Kd k))) (b 4 _ rfl) a
 have q:=DB (Bk e (Bk f (Bk g (Bk h (DG i)))))
 exact⟨.mk v0 t v2 v3 v4,⟨by rw[c];kernel_rfl,(l.at.app (o.at.app (p.at.app (r.at.app s.at))))⟩,q⟩
theorem ZHm(n:Nat):BV enc Tryz.prog W n 104 FA:=fun cs x i=>by
 obtain⟨xs,m,rfl,rfl,c,a,b⟩:=DataW.trod_struct Tryz.underlying104 i
 obtain⟨v0,j,d⟩:=rf (DF Tryz.underlying9) (b 0 _ rfl) a
 obtain⟨s,l,e⟩:=rf (DF Tryz.underlying9) (b 1 _ rfl) a
 obtain⟨v2,o,f⟩:=rf (DF Tryz.underlying9) (b 2 _ rfl) a
 obtain⟨v3,p,g⟩:=rf (DE Tryz.underlying3) (b 3 _ rfl) a
 obtain⟨v4,r,h⟩:=rf (Cw Tryz.underlying47 (by kernel_rfl:Tryz.prog.cellsOf 135=8) (by decide) (fun _=>rfl) (fun k t=>(Kd k))) (b 4 _ rfl) a
 have q:=DB (Bk d (Bk e (Bk f (Bk g (DG h)))))
 exact⟨.mk v0 s v2 v3 v4,⟨by rw[c];kernel_rfl,(j.at.app (l.at.app (o.at.app (p.at.app r.at))))⟩,q⟩
theorem ZJl(n:Nat):BV enc Tryz.prog W n 102 AU:=fun cs x h=>by
 obtain⟨xs,m,rfl,rfl,b,a,c⟩:=DataW.trod_struct Tryz.underlying102 h
 obtain⟨v0,i,d⟩:=rf (DF Tryz.underlying9) (c 0 _ rfl) a
 obtain⟨o,j,e⟩:=rf (Cw Tryz.underlying100 (by kernel_rfl:Tryz.prog.cellsOf 104=5) (by decide) (fun _=>rfl) (fun k g=>(ZHm k))) (c 1 _ rfl) a
 obtain⟨v2,l,f⟩:=rf (Cw Tryz.underlying47 (by kernel_rfl:Tryz.prog.cellsOf 135=8) (by decide) (fun _=>rfl) (fun k g=>(Kd k))) (c 2 _ rfl) a
 have q:=DB (Bk d (Bk e (DG f)))
 exact⟨.mk v0 o v2,⟨by rw[b];kernel_rfl,(i.at.app (j.at.app l.at))⟩,q⟩
theorem ZI7(n:Nat):BV enc Tryz.prog W n 26 AF:=fun cs x h=>by
 obtain⟨xs,m,rfl,rfl,b,a,c⟩:=DataW.trod_struct Tryz.underlying26 h
 obtain⟨v0,i,e⟩:=rf (Cw Tryz.underlying22 (by kernel_rfl:Tryz.prog.cellsOf 49=5) (by decide) (fun _=>rfl) (fun k d=>(ZGA k))) (c 0 _ rfl) a
 obtain⟨o,j,f⟩:=rf (Cw Tryz.underlying23 (by kernel_rfl:Tryz.prog.cellsOf 97=5) (by decide) (fun _=>rfl) (fun k d=>(ZH9 k))) (c 1 _ rfl) a
 obtain⟨v2,l,g⟩:=rf (Cw Tryz.underlying24 (by kernel_rfl:Tryz.prog.cellsOf 102=3) (by decide) (fun _=>rfl) (fun k d=>(ZJl k))) (c 2 _ rfl) a
 have q:=DB (Bk e (Bk f (DG g)))
 exact⟨.mk v0 o v2,⟨by rw[b];kernel_rfl,(i.at.app (j.at.app l.at))⟩,q⟩
end
end Go.Proofs.YtchkcemlglpobaaGreat
namespace Go.Eng
set_option linter.all false
open Go Go.RowKit
section
variable {σ ξ ρ α β γ:Type}
theorem JB{B:Nat→Option (Lv Nat ξ ρ)}{N:Nat}(l:List α)(p:α→Bool)(f:Nat→ρ)(e:ξ)
  (hs:∀i x,l[i]?=some x→B i=some (if p x=true then .rt (f i)else .nx (i+1))) (he:B l.length=some (.ex e)) (hN:l.length<N):
  Am B N 0=some (match l.findIdx? p with|some i=>.inr (f i)|none=>.inl e):=by
 suffices H:∀k i N,i+k=l.length→k<N→Am B N i=some (match (l.drop i).findIdx? p with|some j=>.inr (f (i+j))|none=>.inl e)by
  have:=H l.length 0 N (by omega) hN
  simpa using this
 intro k
 induction k with
 |zero=>
  intro i N hi hN
  obtain⟨N,rfl⟩:∃m,N=m+1:=⟨N-1,by omega⟩
  have:i=l.length:=by omega
  subst this
  rw[Am,he,TM]
  rfl
 |succ k b=>
  intro i N hi hN
  obtain⟨N,rfl⟩:∃m,N=m+1:=⟨N-1,by omega⟩
  have a:i<l.length:=by omega
  rw[Am,hs i l[i] (Yb a),Y9 a,List.findIdx?_cons]
  cases c:p l[i]with
  |true=>simp
  |false=>
   simp only[YB,if_false]
   rw[b (i+1) N (by omega) (by omega)]
   cases(List.drop (i+1) l).findIdx? p with
   |none=>rfl
   |some j=>simp[Yt,KY 1 j]
def J8(R:List α→α→Option ρ):List α→List α→Option ρ
 |_,[]=>none
 |p,x::l=>match R p x with
  |some r=>some r
  |none=>J8 R (p++[x]) l
theorem ZuL{B:σ→Option (Lv σ ξ ρ)}{N:Nat}(l:List α)(S:List α→β)(R:List α→α→Option ρ)(mk:Nat→β→σ)(e:β→ξ)
  (hs:∀i x,l[i]?=some x→B (mk i (S (l.take i)))=some (match R (l.take i) x with|some r=>.rt r|none=>.nx (mk (i+1) (S (l.take i++[x])))))
  (he:B (mk l.length (S l))=some (.ex (e (S l)))) (hN:l.length<N):Am B N (mk 0 (S []))=some ((J8 R [] l).elim (.inl (e (S l))) .inr):=by
 suffices H:∀k i N,i+k=l.length→k<N→Am B N (mk i (S (l.take i)))=some ((J8 R (l.take i) (l.drop i)).elim (.inl (e (S l))) .inr)by
  have:=H l.length 0 N (by omega) hN
  grind
 intro k
 induction k with
 |zero=>
  intro i N hi hN
  obtain⟨N,rfl⟩:∃m,N=m+1:=⟨N-1,by omega⟩
  have:i=l.length:=by omega
  subst this
  rw[Am,K5,he,TM]
  rfl
 |succ k b=>
  intro i N hi hN
  obtain⟨N,rfl⟩:∃m,N=m+1:=⟨N-1,by omega⟩
  have a:i<l.length:=by omega
  rw[Am,hs i l[i] (Yb a),Y9 a,J8]
  cases R (l.take i) l[i]with
  |some r=>rfl
  |none=>
   have:=b (i+1) N (by omega) (by omega)
   rw[Y0 a]at this
   exact this
theorem sD{R:List α→α→Option ρ}(h:∀p x,R p x=none):∀(l p:List α),J8 R p l=none
 |[],p=>rfl
 |x::l,p=>by rw[J8,h];exact sD h l _
theorem L9{B:σ→Option (Lv σ ξ ρ)}{N:Nat}(l:List α)(S:List α→β)(mk:Nat→β→σ)(e:β→ξ)
  (hs:∀i x,l[i]?=some x→B (mk i (S (l.take i)))=some (.nx (mk (i+1) (S (l.take i++[x])))))
  (he:B (mk l.length (S l))=some (.ex (e (S l)))) (hN:l.length<N):Am B N (mk 0 (S []))=some (.inl (e (S l))):=by
 rw[ZuL l S (fun _ _=>none) mk e hs he hN,sD fun _ _=>rfl]
 rfl
theorem ud{B:σ→Option (Lv σ ξ ρ)}(I:Nat→σ→Prop)(Q:ξ ⊕ ρ→Prop)
  (h:∀k v,I k v→∃o,B v=some o∧match o with|.nx c=>∃k',k'<k∧I k' c|.ex b=>Q (.inl b)|.rt y=>Q (.inr y)):
  ∀N k v,k<N→I k v→∃o,Am B N v=some o∧Q o
 |0,k,v,d,_=>absurd d (IX _)
 |N+1,k,v,d,g=>by
  obtain⟨o,e,a⟩:=h k v g
  rw[Am,e]
  cases o with
  |nx c=>obtain⟨k',i,f⟩:=a;exact ud I Q h N k' c (by omega) f
  |ex b=>exact⟨_,rfl,a⟩
  |rt y=>exact⟨_,rfl,a⟩
theorem DH{l:List α}{i:Nat}{x:α}(h:l[i]?=some x):(i:Int)<(l.length:Int):=by
 grind
theorem B0{n:Nat}(h:n<4611686018427387904):n<Ai:=h
end
end Go.Eng
namespace Go.Proofs.YtchkcemlglpobaaGreat
set_option linter.all false
open Go Go.Eng
def Ok{α:Type}(Q:α→Prop)(o:Option α):Prop:=∃y,o=some y∧Q y
section
variable {α β γ σ ξ ρ:Type} {Q:β→Prop} {P:α→Prop}
theorem Ok.pure{y:β}(h:Q y):Ok Q (some y):=⟨y,rfl,h⟩
theorem Ok.bind{m:Option α}{k:α→Option β}(h:Ok P m)(a:∀y,P y→Ok Q (k y)):Ok Q (m.bind k):=by
 obtain⟨y,rfl,h⟩:=h
 exact a y h
theorem Ok.idx{xs:List α}{i:Nat}{k:α→Option β}(h:i<xs.length)(a:∀x,xs[i]?=some x→x∈xs→Ok Q (k x)):Ok Q (xs[i]?.bind k):=by
 rw[Yb h]
 exact a _ (Yb h) (I0 h)
theorem Ok.ite{c:Prop}{d:Decidable c}{a b:Option β}(h:c→Ok Q a)(e:¬c→Ok Q b):Ok Q (if c then a else b):=by
 split
 ·exact h ‹_›
 ·exact e ‹_›
theorem Ok.br{b:Bool}{x y:Option β}(h:b=true→Ok Q x)(a:b=false→Ok Q y):Ok Q (if b=true then x else y):=by
 cases b
 ·exact a rfl
 ·exact h rfl
theorem Ok.if{c:Prop}{d:Decidable c}{a:Option β}(b:c)(h:Ok Q a):Ok Q (if c then a else none):=by
 rw[if_pos b]
 exact h
theorem Ok.ss{lo hi:Bd}{n:Nat}{a:Option β}(b:lo.c∧hi.c∧lo.vl 0≤hi.vl n∧hi.vl n≤n)(h:Ok Q a):Ok Q (if lo.c∧hi.c∧lo.vl 0≤hi.vl n∧hi.vl n≤n then a else none):=by
 rw[if_pos b]
 exact h
theorem Ok.clg{b:Bool}{m:Option α}{x:Option β}(h:b=true→Ok P m)[Inhabited α](d:(b=true→P (m.getD default))→Ok Q x):Ok Q (if(b=true→m.isSome=true)then x else none):=by
 rw[if_pos fun e=>by obtain⟨y,h,_⟩:=h e;rw[h];rfl]
 refine d fun e=>?_
 obtain⟨y,a,c⟩:=h e
 rw[a]
 exact c
theorem Ok.idxg{b:Bool}{xs:List α}{i:Int}{x:Option β}[Rw α](h:b=true→0≤i∧i<xs.length)(c:(b=true→xs[i.toNat]?=some (xs.getD i.toNat Rw.z)∧xs.getD i.toNat Rw.z∈xs)→Ok Q x):Ok Q (if(b=true→0≤i∧i<xs.length)then x else none):=by
 rw[if_pos h]
 refine c fun e=>?_
 have d:=h e
 have a:i.toNat<xs.length:=by omega
 rw[Yz,Yb a]
 exact⟨rfl,I0 a⟩
theorem Ok.loop{B:σ→Option (Lv σ ξ ρ)}{N:Nat}{v:σ}(I:σ→Prop)(μ:σ→Nat){A:ξ→Prop}{R:ρ→Prop}(d:I v)(hN:μ v<N)
  (hs:∀v,I v→Ok (fun o=>match o with|.nx c=>I c∧μ c<μ v|.ex b=>A b|.rt y=>R y) (B v)):Ok (Sum.elim A R) (Am B N v):=
 ud (fun k v=>I v∧μ v≤k) (Sum.elim A R) (fun k v h=>by
  obtain⟨o,e,a⟩:=hs v h.1
  refine⟨o,e,?_⟩
  cases o with
  |nx c=>exact⟨μ c,by have:=a.2;have:=h.2;omega,a.1,Ye _⟩
  |ex b=>exact a
  |rt y=>exact a) N (μ v) v hN ⟨d,Ye _⟩
theorem Ok.lb{m:Option (ξ ⊕ ρ)}{A:ξ→Prop}{R:ρ→Prop}{f:ξ→Option β}{g:ρ→Option β}(h:Ok (Sum.elim A R) m)(c:∀b,A b→Ok Q (f b))(a:∀r,R r→Ok Q (g r)):Ok Q (m.bind (Sum.elim f g)):=by
 obtain⟨y,rfl,h⟩:=h
 cases y with
 |inl b=>exact c b h
 |inr r=>exact a r h
theorem Ok.mono{a:β→Prop}{o:Option β}(h:Ok Q o)(k:∀y,Q y→a y):Ok a o:=by
 obtain⟨y,b,c⟩:=h
 exact⟨y,b,k y c⟩
theorem Ok.some{o:Option β}(h:Ok Q o):o.isSome=true:=by
 obtain⟨y,a,b⟩:=h
 rw[a]
 rfl
end
abbrev Tr{α:Type}:α→Prop:=fun _=>True
abbrev No{α:Type}:α→Prop:=fun _=>False
abbrev Ts{α β:Type}:α ⊕ β→Prop:=Sum.elim Tr Tr
theorem AE:(⟨#[]⟩:ByteArray).size=0:=rfl
theorem Pd(x:Int):Ok Tr (rK x):=⟨_,rfl,trivial⟩
theorem N9(x:Int):Ok Tr (rI x):=⟨_,rfl,trivial⟩
theorem o3(x:Val):Ok Tr (XP x):=⟨_,rfl,trivial⟩
theorem pT(x:Int):Ok Tr (Pg x):=⟨_,rfl,trivial⟩
theorem o5(x:Int):Ok Tr (LX x):=by
 dsimp only[LX,QY,br,lr,br,rem]
 (repeat' (first|with_reducible refine Ok.br (fun _=>?_) (fun _=>?_)|with_reducible refine Ok.pure ?_|with_reducible refine Ok.if ?_ ?_))<;>(first|trivial|assumption|contradiction|omega|solve_by_elim|(simp only[Bool.and_eq_true,Bool.or_eq_true,Bool.not_eq_true',Bool.and_eq_false_iff,Bool.or_eq_false_iff,decide_eq_true_eq,decide_eq_false_iff_not]at*;omega)|grind)
theorem Xt(x:ByteArray):Ok Tr (Zo x):=by
 dsimp only[Zo,cI,PJ,Ma,L1,br,lr,br]
 (repeat' (first|with_reducible refine Ok.br (fun _=>?_) (fun _=>?_)|with_reducible refine Ok.pure ?_|with_reducible refine Ok.if ?_ ?_))<;>(first|trivial|assumption|contradiction|omega|solve_by_elim|(simp only[Bool.and_eq_true,Bool.or_eq_true,Bool.not_eq_true',Bool.and_eq_false_iff,Bool.or_eq_false_iff,decide_eq_true_eq,decide_eq_false_iff_not]at*;omega)|grind)
theorem ZR2(x:ByteArray)(n:Int):Ok Tr (Zq x n):=by
 dsimp only[Zq,eB,aA,PM,Pz,L3,L2,Pt,br,lr,br]
 (repeat' (first|with_reducible refine Ok.br (fun _=>?_) (fun _=>?_)|with_reducible refine Ok.pure ?_|with_reducible refine Ok.if ?_ ?_))<;>(first|trivial|assumption|contradiction|omega|solve_by_elim|(simp only[Bool.and_eq_true,Bool.or_eq_true,Bool.not_eq_true',Bool.and_eq_false_iff,Bool.or_eq_false_iff,decide_eq_true_eq,decide_eq_false_iff_not]at*;omega)|grind)
theorem XC(x:ByteArray):Ok Tr (XS x):=by
 dsimp only[XS,eO,br,lr,br]
 (repeat' (first|with_reducible refine Ok.br (fun _=>?_) (fun _=>?_)|with_reducible refine Ok.pure ?_|with_reducible refine Ok.if ?_ ?_))<;>(first|trivial|assumption|contradiction|omega|solve_by_elim|(simp only[Bool.and_eq_true,Bool.or_eq_true,Bool.not_eq_true',Bool.and_eq_false_iff,Bool.or_eq_false_iff,decide_eq_true_eq,decide_eq_false_iff_not]at*;omega)|grind)
theorem ya(x:Fld):Ok Tr (Zv x):=by
 dsimp only[Zv,gH,br,vw,lr,br]
 (repeat' (first|with_reducible refine Ok.br (fun _=>?_) (fun _=>?_)|with_reducible refine Ok.pure ?_|with_reducible refine Ok.if ?_ ?_))<;>(first|trivial|assumption|contradiction|omega|solve_by_elim|(simp only[Bool.and_eq_true,Bool.or_eq_true,Bool.not_eq_true',Bool.and_eq_false_iff,Bool.or_eq_false_iff,decide_eq_true_eq,decide_eq_false_iff_not]at*;omega)|grind)
theorem Xp(x:ByteArray)(i a b:Int)(h:0≤i):Ok Tr (Zg x i a b):=by
 dsimp only[Zg,eT,vz,lr,A3,E2]
 (repeat' (first|with_reducible refine Ok.br (fun _=>?_) (fun _=>?_)|with_reducible refine Ok.pure ?_|with_reducible refine Ok.if ?_ ?_))<;>(first|trivial|assumption|contradiction|omega|solve_by_elim|(simp only[Bool.and_eq_true,Bool.or_eq_true,Bool.not_eq_true',Bool.and_eq_false_iff,Bool.or_eq_false_iff,decide_eq_true_eq,decide_eq_false_iff_not]at*;omega)|grind)
theorem qL(x:ByteArray)(i n:Int)(h:0≤i)(a:i≤2097152)(b:n≤9):Ok Tr (Zt x i n):=by
 have q:Ok Ts (Am (QT x i n) Ai 0):=by
  refine Ok.loop (fun _:Nat=>True) (fun v:Nat=>(n-v).toNat) trivial ?_ fun v _=>?_
  ·unfold Ai
   omega
  dsimp only[QT,gk,br,vs,Ay,ln,Al,cl,wa,wi,br]
  (repeat' (first|with_reducible refine Ok.br (fun _=>?_) (fun _=>?_)|with_reducible refine Ok.pure ?_|(with_reducible apply Ok.bind;(exact Xp _ _ _ _ (by omega));intro _ _)|with_reducible refine Ok.if ?_ ?_))<;>(first|trivial|assumption|contradiction|omega|solve_by_elim|(simp only[Bool.and_eq_true,Bool.or_eq_true,Bool.not_eq_true',Bool.and_eq_false_iff,Bool.or_eq_false_iff,decide_eq_true_eq,decide_eq_false_iff_not]at*;omega)|grind)
 dsimp only[Zt,ez,dQ,b7,lr,lc]
 (repeat' (first|with_reducible refine Ok.br (fun _=>?_) (fun _=>?_)|with_reducible refine Ok.pure ?_|(with_reducible apply Ok.lb;(exact q);all_goals(intro _ _;try dsimp only))|with_reducible refine Ok.if ?_ ?_))<;>(first|trivial|assumption|contradiction|omega|solve_by_elim|(simp only[Bool.and_eq_true,Bool.or_eq_true,Bool.not_eq_true',Bool.and_eq_false_iff,Bool.or_eq_false_iff,decide_eq_true_eq,decide_eq_false_iff_not]at*;omega)|grind)
set_option maxRecDepth 20000 in
theorem ZSd(x:ByteArray)(i:Int)(h:0≤i)(h1:i<x.size)(h2:x.size≤1048576):Ok (fun y=>0≤y∧y≤4) (XN x i):=by
 dsimp only[XN,eA,br,vg,lr,clg,wi,br,SV]
 (repeat' (first|with_reducible refine Ok.br (fun _=>?_) (fun _=>?_)|with_reducible refine Ok.pure ?_|with_reducible refine Ok.idx ?_ (fun _ _ _=>?_)|(with_reducible apply Ok.bind;(exact Xp _ _ _ _ (by omega));intro _ _)|(with_reducible apply Ok.bind;(exact qL _ _ _ (by omega) (by omega) (by omega));intro _ _)|(with_reducible apply Ok.clg;(exact fun _=>Xp _ _ _ _ (by omega));intro _)|(with_reducible apply Ok.clg;(exact fun _=>qL _ _ _ (by omega) (by omega) (by omega));intro _)|with_reducible refine Ok.if ?_ ?_))<;>(first|trivial|assumption|contradiction|omega|solve_by_elim|(simp only[Bool.and_eq_true,Bool.or_eq_true,Bool.not_eq_true',Bool.and_eq_false_iff,Bool.or_eq_false_iff,decide_eq_true_eq,decide_eq_false_iff_not]at*;omega)|grind)
structure SzV (v:Val):Prop where
 t:v.text.size≤1048576
 l:v.list.length≤1048576
 p:v.pairs.length≤1048576
 s:v.slots.length≤1048576
 r:v.raws.length≤1048576
structure SzN (x:Nt):Prop where
 n:x.name.size≤1048576
 v:SzV x.val
abbrev Fx(l:List Nt):Prop:=l.length≤1048576∧∀x∈l,SzN x
structure SzF (x:Fld):Prop where
 n:x.name.size≤1048576
 t:x.type.name.size≤1048576
 u:x.union.size≤1048576
 d:SzV x.dflt
 o:Fx x.notes
structure SzM (x:Msg):Prop where
 n:x.name.size≤1048576
 fl:x.fields.length≤1048576
 f:∀y∈x.fields,SzF y
 r:x.reserved.length≤1048576
 gl:x.gone.length≤1048576
 g:∀y∈x.gone,y.size≤1048576
 o:Fx x.notes
structure SzI (x:Itm):Prop where
 n:x.name.size≤1048576
 o:Fx x.notes
structure SzE (x:Enm):Prop where
 n:x.name.size≤1048576
 il:x.items.length≤1048576
 i:∀y∈x.items,SzI y
 r:x.reserved.length≤1048576
 o:Fx x.notes
structure SzT (x:Mth):Prop where
 n:x.name.size≤1048576
 o:Fx x.notes
structure SzW (x:Svc):Prop where
 n:x.name.size≤1048576
 ml:x.methods.length≤1048576
 m:∀y∈x.methods,SzT y
 o:Fx x.notes
structure SzS (x:Scm):Prop where
 ml:x.messages.length≤1048576
 m:∀y∈x.messages,SzM y
 el:x.enums.length≤1048576
 e:∀y∈x.enums,SzE y
 wl:x.services.length≤1048576
 w:∀y∈x.services,SzW y
theorem BY{v:Val}(h:Ax (Ag v)≤1048576):SzV v:=by
 have a:=C2 (e:=Aq) v.list
 have b:=C2 (e:=Au) v.pairs
 have c:=C2 (e:=Aj) v.slots
 have d:=C2 (e:=Az) v.raws
 simp only[Ag,Ax,bk]at h
 constructor<;>omega
theorem SH{v:Val}(h:Ax (Ag v)≤1048576):0≤v.bits∧v.bits≤18446744073709551615:=by
 simp only[Ag,Ax,bk]at h
 have:=ZNv (k:=.u64) (n:=v.bits) (by omega)
 exact this
theorem szN{x:Nt}(h:Ax (AJ x)≤1048576):SzN x:=by
 have e:Ax (AJ x)=x.name.size+Ax (Ag x.val):=by simp only[AJ,Ag,Ax,bk]
 exact⟨by omega,BY (by omega)⟩
theorem Jk{l:List Nt}(h:Bh (l.map AJ)≤1048576):Fx l:=⟨by have:=C2 (e:=AJ) l;omega,fun x a=>szN (by have:=CF (e:=AJ) a;omega)⟩
theorem szF{x:Fld}(h:Ax (Ap x)≤1048576):SzF x:=by
 have e:x.name.size+x.type.name.size+x.union.size+Ax (Ag x.dflt)+Bh (x.notes.map AJ)≤Ax (Ap x):=by
  simp only[Ap,Ag,Ax,bk]
  omega
 exact⟨by omega,by omega,by omega,BY (by omega),Jk (by omega)⟩
theorem szM{x:Msg}(h:Ax (AA x)≤1048576):SzM x:=by
 simp only[AA,Ax,bk]at h
 have a:=C2 (e:=Ap) x.fields
 have b:=C2 (e:=AY) x.reserved
 have c:=C2 (e:=AB) x.gone
 exact⟨by omega,by omega,fun y hy=>szF (by have:=CF (e:=Ap) hy;omega),by omega,by omega,fun y hy=>by have:=CF (e:=AB) hy;simp only[AB,Ax,bk]at this;omega,Jk (by omega)⟩
theorem szI{x:Itm}(h:Ax (EW x)≤1048576):SzI x:=by
 simp only[EW,Ax,bk]at h
 exact⟨by omega,Jk (by omega)⟩
theorem szE{x:Enm}(h:Ax (AO x)≤1048576):SzE x:=by
 simp only[AO,Ax,bk]at h
 have a:=C2 (e:=EW) x.items
 have b:=C2 (e:=AY) x.reserved
 exact⟨by omega,by omega,fun y hy=>szI (by have:=CF (e:=EW) hy;omega),by omega,Jk (by omega)⟩
theorem szT{x:Mth}(h:Ax (FA x)≤1048576):SzT x:=by
 simp only[FA,Ax,bk]at h
 exact⟨by omega,Jk (by omega)⟩
theorem szW{x:Svc}(h:Ax (AU x)≤1048576):SzW x:=by
 simp only[AU,Ax,bk]at h
 have a:=C2 (e:=FA) x.methods
 exact⟨by omega,by omega,fun y hy=>szT (by have:=CF (e:=FA) hy;omega),Jk (by omega)⟩
theorem yk{x:Scm}(h:Ax (AF x)≤1048576):SzS x:=by
 simp only[AF,Ax,bk]at h
 have a:=C2 (e:=AA) x.messages
 have b:=C2 (e:=AO) x.enums
 have c:=C2 (e:=AU) x.services
 exact⟨by omega,fun y hy=>szM (by have:=CF (e:=AA) hy;omega),by omega,fun y hy=>szE (by have:=CF (e:=AO) hy;omega),by omega,fun y hy=>szW (by have:=CF (e:=AU) hy;omega)⟩
theorem bw(x:ByteArray):x.data.toList.length=x.size:=by rw[YJ];rfl
theorem AW{n:Nat}(h:n≤2097152):n<Ai:=by unfold Ai;omega
theorem ZRH(x:ByteArray)(h:x.size≤1048576):Ok Tr (ZC x):=by
 have q:Ok Ts (Am (Q4 x) Ai 0):=by
  refine Ok.loop (fun v:Int=>0≤v∧v≤x.size+4) (fun v:Int=>(x.size+4-v).toNat) ⟨by omega,by omega⟩ (AW (by omega)) fun v a=>?_
  dsimp only[Q4,gA,br,vz,vs,Ay,ln,Al,cl,wi,A3,br]
  (repeat' (first|with_reducible refine Ok.br (fun _=>?_) (fun _=>?_)|with_reducible refine Ok.pure ?_|(with_reducible apply Ok.bind;(exact ZSd _ _ a.1 (by(first|trivial|assumption|contradiction|omega|solve_by_elim|(simp only[Bool.and_eq_true,Bool.or_eq_true,Bool.not_eq_true',Bool.and_eq_false_iff,Bool.or_eq_false_iff,decide_eq_true_eq,decide_eq_false_iff_not]at*;omega)|grind)) h);intro _ _)|with_reducible refine Ok.if ?_ ?_))<;>(first|trivial|assumption|contradiction|omega|grind|(simp only[Bd.c,Bd.vl,ByteArray.size_append,ByteArray.size_extract,AE]at*;grind))
 dsimp only[ZC,fH,cF,dP,lr,lc]
 (repeat' (first|with_reducible refine Ok.br (fun _=>?_) (fun _=>?_)|with_reducible refine Ok.pure ?_|(with_reducible apply Ok.lb;(exact q);all_goals(intro _ _;try dsimp only))|with_reducible refine Ok.if ?_ ?_))<;>(first|trivial|assumption|contradiction|omega|solve_by_elim|(simp only[Bool.and_eq_true,Bool.or_eq_true,Bool.not_eq_true',Bool.and_eq_false_iff,Bool.or_eq_false_iff,decide_eq_true_eq,decide_eq_false_iff_not]at*;omega)|grind)
theorem iH(x:ByteArray)(h:x.size≤1048576):Ok Tr (Pk x):=by
 dsimp only[Pk,fB,lr,cl]
 (repeat' (first|with_reducible refine Ok.br (fun _=>?_) (fun _=>?_)|with_reducible refine Ok.pure ?_|(with_reducible apply Ok.bind;(exact ZRH _ h);intro _ _)|with_reducible refine Ok.if ?_ ?_))<;>(first|trivial|assumption|contradiction|omega|solve_by_elim|(simp only[Bool.and_eq_true,Bool.or_eq_true,Bool.not_eq_true',Bool.and_eq_false_iff,Bool.or_eq_false_iff,decide_eq_true_eq,decide_eq_false_iff_not]at*;omega)|grind)
theorem OP(x:ByteArray)(h:x.size≤1048576):Ok Tr (XU x):=by
 have hl:=bw x
 have q:Ok Ts (Am (QJ x) Ai 1):=by
  refine Ok.loop (fun v:Nat=>v≤1048577) (fun v:Nat=>1048577-v) (by omega) (AW (by omega)) fun v a=>?_
  dsimp only[QJ,ep,br,vz,vs,Ay,ln,Al,cl,clg,wa,A3,br,ib,E2]
  (repeat' (first|with_reducible refine Ok.br (fun _=>?_) (fun _=>?_)|with_reducible refine Ok.pure ?_|with_reducible refine Ok.idx ?_ (fun _ _ _=>?_)|(with_reducible apply Ok.bind;(exact Pd _);intro _ _)|(with_reducible apply Ok.bind;(exact N9 _);intro _ _)|(with_reducible apply Ok.clg;(exact fun _=>Pd _);intro _)|(with_reducible apply Ok.clg;(exact fun _=>N9 _);intro _)|with_reducible refine Ok.if ?_ ?_))<;>(first|trivial|assumption|contradiction|omega|grind|(simp only[Bd.c,Bd.vl,ByteArray.size_append,ByteArray.size_extract,AE]at*;grind))
 dsimp only[XU,hP,bH,dU,br,vz,vy,lr,lc,clg,A3,br,E2]
 (repeat' (first|with_reducible refine Ok.br (fun _=>?_) (fun _=>?_)|with_reducible refine Ok.pure ?_|(with_reducible apply Ok.lb;(exact q);all_goals(intro _ _;try dsimp only))|(with_reducible apply Ok.bind;(exact Pd _);intro _ _)|(with_reducible apply Ok.bind;(exact N9 _);intro _ _)|(with_reducible apply Ok.clg;(exact fun _=>Pd _);intro _)|(with_reducible apply Ok.clg;(exact fun _=>N9 _);intro _)|with_reducible refine Ok.if ?_ ?_))<;>(first|trivial|assumption|contradiction|omega|solve_by_elim|(simp only[Bool.and_eq_true,Bool.or_eq_true,Bool.not_eq_true',Bool.and_eq_false_iff,Bool.or_eq_false_iff,decide_eq_true_eq,decide_eq_false_iff_not]at*;omega)|grind)
theorem ZS6(x:ByteArray)(h:x.size≤1048576):Ok Tr (XX x):=by
 have hl:=bw x
 have q:Ok (Sum.elim (fun b:ByteArray=>b.size≤1048576) Tr) (Am (Rh x) Ai (⟨#[]⟩,0)):=by
  refine Ok.loop (fun v:ByteArray×Nat=>v.1.size≤v.2∧v.2≤x.size) (fun v:ByteArray×Nat=>x.size-v.2) ⟨by rw[AE];omega,by omega⟩ (AW (by omega)) fun v a=>?_
  obtain⟨v,i⟩:=v
  obtain⟨a,hi⟩:=a
  dsimp only at a hi
  dsimp only[Rh,dz,br,vz,vs,v2,Ay,ln,Al,ad,cl,wa,ss,A3,br,ib]
  (repeat' (first|with_reducible refine Ok.br (fun _=>?_) (fun _=>?_)|with_reducible refine Ok.pure ?_|with_reducible refine Ok.idx ?_ (fun _ _ _=>?_)|(with_reducible apply Ok.bind;(exact OP _ (by omega));intro _ _)|with_reducible refine Ok.ss ?_ ?_|with_reducible refine Ok.if ?_ ?_))<;>(first|trivial|assumption|contradiction|omega|grind|(simp only[Bd.c,Bd.vl,ByteArray.size_append,ByteArray.size_extract,AE]at*;grind))
 dsimp only[XX,dv,dD,cO,br,vz,lr,lc,cl,A3,br]
 (repeat' (first|with_reducible refine Ok.br (fun _=>?_) (fun _=>?_)|with_reducible refine Ok.pure ?_|(with_reducible apply Ok.lb;(exact q);all_goals(intro _ _;try dsimp only))|(with_reducible apply Ok.bind;(exact OP _ (by assumption));intro _ _)|with_reducible refine Ok.if ?_ ?_))<;>(first|trivial|assumption|contradiction|omega|solve_by_elim|(simp only[Bool.and_eq_true,Bool.or_eq_true,Bool.not_eq_true',Bool.and_eq_false_iff,Bool.or_eq_false_iff,decide_eq_true_eq,decide_eq_false_iff_not]at*;omega)|grind)
set_option maxRecDepth 20000 in
theorem ZSF(x:ByteArray)(h:x.size≤1048576):Ok (fun y=>y.1.size≤1048576∧y.2.size≤1048576) (XY x):=by
 have hl:=bw x
 have q:Ok (Sum.elim Tr (fun y:ByteArray×ByteArray=>y.1.size≤1048576∧y.2.size≤1048576)) (Am (Rk x) Ai ((x.size:Int)-1)):=by
  refine Ok.loop (fun v:Int=>-1≤v∧v<x.size) (fun v:Int=>(v+1).toNat) ⟨by omega,by omega⟩ (AW (by omega)) fun v hv=>?_
  dsimp only[Rk,fb,br,vs,Ay,ln,Al,wi,ss,br,SV]
  (repeat' (first|with_reducible refine Ok.br (fun _=>?_) (fun _=>?_)|with_reducible refine Ok.pure ?_|with_reducible refine Ok.idx ?_ (fun _ _ _=>?_)|with_reducible refine Ok.ss ?_ ?_|with_reducible refine Ok.if ?_ ?_))<;>(first|trivial|assumption|contradiction|omega|grind|(simp only[Bd.c,Bd.vl,ByteArray.size_append,ByteArray.size_extract,AE]at*;grind))
 dsimp only[XY,fk,gL,de,vz,vs,lr,lc,wi,A3]
 (repeat' (first|with_reducible refine Ok.br (fun _=>?_) (fun _=>?_)|with_reducible refine Ok.pure ?_|(with_reducible apply Ok.lb;(exact q);all_goals(intro _ _;try dsimp only))|with_reducible refine Ok.if ?_ ?_))<;>(first|trivial|assumption|contradiction|omega|grind|(simp only[Bd.c,Bd.vl,ByteArray.size_append,ByteArray.size_extract,AE]at*;grind))
set_option maxRecDepth 20000 in
theorem iF(x:ByteArray)(h:x.size≤1048576):Ok Tr (XW x):=by
 have q:Ok Ts (Am Q7 Ai (x,0)):=by
  refine Ok.loop (fun v:ByteArray×Nat=>v.1.size≤1048576∧v.2≤120) (fun v:ByteArray×Nat=>120-v.2) ⟨h,by omega⟩ (AW (by omega)) fun v hv=>?_
  obtain⟨v,i⟩:=v
  obtain⟨hv,hi⟩:=hv
  dsimp only at hv hi
  dsimp only[Q7,cV,br,vs,v2,Ay,ln,Al,cl,wa,br]
  (repeat' (first|with_reducible refine Ok.br (fun _=>?_) (fun _=>?_)|with_reducible refine Ok.pure ?_|(with_reducible apply Ok.bind;(exact ZSF _ hv);intro _ _)|(with_reducible apply Ok.bind;(exact XC _);intro _ _)|with_reducible refine Ok.if ?_ ?_))<;>(first|trivial|assumption|contradiction|omega|grind|(simp only[Bd.c,Bd.vl,ByteArray.size_append,ByteArray.size_extract,AE]at*;grind))
 dsimp only[XW,dC,ee,cE,br,lr,lc,cl,br]
 (repeat' (first|with_reducible refine Ok.br (fun _=>?_) (fun _=>?_)|with_reducible refine Ok.pure ?_|(with_reducible apply Ok.lb;(exact q);all_goals(intro _ _;try dsimp only))|(with_reducible apply Ok.bind;(exact ZS6 _ h);intro _ _)|with_reducible refine Ok.if ?_ ?_))<;>(first|trivial|assumption|contradiction|omega|grind|(simp only[Bd.c,Bd.vl,ByteArray.size_append,ByteArray.size_extract,AE]at*;grind))
set_option maxRecDepth 20000 in
theorem IP(x:ByteArray)(h:x.size≤1048576):Ok Tr (XL x):=by
 dsimp only[XL,fv,lr,cl,clg]
 (repeat' (first|with_reducible refine Ok.br (fun _=>?_) (fun _=>?_)|with_reducible refine Ok.pure ?_|(with_reducible apply Ok.bind;(exact OP _ h);intro _ _)|(with_reducible apply Ok.bind;(exact XC _);intro _ _)|(with_reducible apply Ok.clg;(exact fun _=>OP _ h);intro _)|(with_reducible apply Ok.clg;(exact fun _=>XC _);intro _)|with_reducible refine Ok.if ?_ ?_))<;>(first|trivial|assumption|contradiction|omega|grind|(simp only[Bd.c,Bd.vl,ByteArray.size_append,ByteArray.size_extract,AE]at*;grind))
theorem x9(l:List ByteArray)(x:ByteArray)(h:l.length≤1048576):Ok Tr (LQ l x):=by
 have q:Ok Ts (Am (J0 l x) Ai 0):=by
  refine Ok.loop (fun v:Nat=>v≤l.length) (fun v:Nat=>l.length-v) (by omega) (AW (by omega)) fun v a=>?_
  dsimp only[J0,Qr,br,ix,vz,vs,Ay,ln,Al,wa,Ah,br]
  (repeat' (first|with_reducible refine Ok.br (fun _=>?_) (fun _=>?_)|with_reducible refine Ok.pure ?_|with_reducible refine Ok.idx ?_ (fun _ _ _=>?_)|with_reducible refine Ok.if ?_ ?_))<;>(first|trivial|assumption|contradiction|omega|grind|(simp only[Bd.c,Bd.vl,ByteArray.size_append,ByteArray.size_extract,AE]at*;grind))
 dsimp only[LQ,QN,QX,QS,lr,lc]
 (repeat' (first|with_reducible refine Ok.br (fun _=>?_) (fun _=>?_)|with_reducible refine Ok.pure ?_|(with_reducible apply Ok.lb;(exact q);all_goals(intro _ _;try dsimp only))|with_reducible refine Ok.if ?_ ?_))<;>(first|trivial|assumption|contradiction|omega|grind|(simp only[Bd.c,Bd.vl,ByteArray.size_append,ByteArray.size_extract,AE]at*;grind))
theorem iG(l:List Spn)(x:Int)(h:l.length≤1048576):Ok Tr (Zb l x):=by
 have q:Ok Ts (Am (Q9 l x) Ai 0):=by
  refine Ok.loop (fun v:Nat=>v≤l.length) (fun v:Nat=>l.length-v) (by omega) (AW (by omega)) fun v a=>?_
  dsimp only[Q9,gt,br,ix,A8,vz,vs,Ay,ln,Al,wa,Ah,br]
  (repeat' (first|with_reducible refine Ok.br (fun _=>?_) (fun _=>?_)|with_reducible refine Ok.pure ?_|with_reducible refine Ok.idx ?_ (fun _ _ _=>?_)|with_reducible refine Ok.idxg ?_ (fun _=>?_)|with_reducible refine Ok.if ?_ ?_))<;>(first|trivial|assumption|contradiction|omega|grind|(simp only[Bd.c,Bd.vl,ByteArray.size_append,ByteArray.size_extract,AE]at*;grind))
 dsimp only[Zb,gi,gG,hZ,lr,lc]
 (repeat' (first|with_reducible refine Ok.br (fun _=>?_) (fun _=>?_)|with_reducible refine Ok.pure ?_|(with_reducible apply Ok.lb;(exact q);all_goals(intro _ _;try dsimp only))|with_reducible refine Ok.if ?_ ?_))<;>(first|trivial|assumption|contradiction|omega|grind|(simp only[Bd.c,Bd.vl,ByteArray.size_append,ByteArray.size_extract,AE]at*;grind))
theorem M7(s:Scm)(x:ByteArray)(h:SzS s):Ok (fun y:Int=>y<s.messages.length) (X8 s x):=by
 have hm:=h.ml
 have q:Ok (Sum.elim Tr fun y:Int=>y<s.messages.length) (Am (QU s x) Ai 0):=by
  refine Ok.loop (fun v:Nat=>v≤s.messages.length) (fun v:Nat=>s.messages.length-v) (by omega) (AW (by omega)) fun v a=>?_
  dsimp only[QU,fG,br,ix,vz,vw,vs,Ay,ln,Al,wa,Ah,br]
  (repeat' (first|with_reducible refine Ok.br (fun _=>?_) (fun _=>?_)|with_reducible refine Ok.pure ?_|with_reducible refine Ok.idx ?_ (fun _ _ _=>?_)|with_reducible refine Ok.if ?_ ?_))<;>(first|trivial|assumption|contradiction|omega|grind|(simp only[Bd.c,Bd.vl,ByteArray.size_append,ByteArray.size_extract,AE]at*;grind))
 dsimp only[X8,cq,eU,hJ,lr,lc]
 (repeat' (first|with_reducible refine Ok.br (fun _=>?_) (fun _=>?_)|with_reducible refine Ok.pure ?_|(with_reducible apply Ok.lb;(exact q);all_goals(intro _ _;try dsimp only))|with_reducible refine Ok.if ?_ ?_))<;>(first|trivial|assumption|contradiction|omega|grind|(simp only[Bd.c,Bd.vl,ByteArray.size_append,ByteArray.size_extract,AE]at*;grind))
theorem W5(s:Scm)(x:ByteArray)(h:SzS s):Ok (fun y:Int=>y<s.enums.length) (Ze s x):=by
 have hm:=h.el
 have q:Ok (Sum.elim Tr fun y:Int=>y<s.enums.length) (Am (QL s x) Ai 0):=by
  refine Ok.loop (fun v:Nat=>v≤s.enums.length) (fun v:Nat=>s.enums.length-v) (by omega) (AW (by omega)) fun v a=>?_
  dsimp only[QL,ed,br,ix,vz,vw,vs,Ay,ln,Al,wa,Ah,br]
  (repeat' (first|with_reducible refine Ok.br (fun _=>?_) (fun _=>?_)|with_reducible refine Ok.pure ?_|with_reducible refine Ok.idx ?_ (fun _ _ _=>?_)|with_reducible refine Ok.if ?_ ?_))<;>(first|trivial|assumption|contradiction|omega|grind|(simp only[Bd.c,Bd.vl,ByteArray.size_append,ByteArray.size_extract,AE]at*;grind))
 dsimp only[Ze,b9,bP,bQ,lr,lc]
 (repeat' (first|with_reducible refine Ok.br (fun _=>?_) (fun _=>?_)|with_reducible refine Ok.pure ?_|(with_reducible apply Ok.lb;(exact q);all_goals(intro _ _;try dsimp only))|with_reducible refine Ok.if ?_ ?_))<;>(first|trivial|assumption|contradiction|omega|grind|(simp only[Bd.c,Bd.vl,ByteArray.size_append,ByteArray.size_extract,AE]at*;grind))
theorem O6(v w:Val)(h:SzV v)(k:SzV w):Ok Tr (XK v w):=by
 obtain⟨_,_,_,_,_⟩:=h
 obtain⟨_,_,_,_,_⟩:=k
 dsimp only[XK,gP,vy,vw,vg,lr,wa,Ah]
 (repeat' (first|with_reducible refine Ok.br (fun _=>?_) (fun _=>?_)|with_reducible refine Ok.pure ?_|with_reducible refine Ok.if ?_ ?_))<;>(first|trivial|assumption|contradiction|omega|grind|(simp only[Bd.c,Bd.vl,ByteArray.size_append,ByteArray.size_extract,AE]at*;grind))
def GG(v:Val):Prop:=v.list=[]∧v.pairs=[]∧v.slots=[]∧v.raws=[]∧(v.kind=7∨v.kind=8→v.bits=0)∧(¬(v.kind=7∨v.kind=8)→v.text=⟨#[]⟩)
def IU(n:Int)(v:Val):Prop:=1≤n∧n≤9∧v.kind=n∧GG v
theorem ZNr{n:Int}{v:Val}(h:SzV v)(e:Jt n v=some true):IU n v:=by
 obtain⟨p,q,r,s,t⟩:=h
 have k:v.list.length<4611686018427387904:=by omega
 have l:v.pairs.length<4611686018427387904:=by omega
 have m:v.slots.length<4611686018427387904:=by omega
 have o:v.raws.length<4611686018427387904:=by omega
 have hi:Po n=some (decide (1≤n)&&decide (n≤9)):=rfl
 dsimp only[Jt,QG,br,vz,vy,vw,lr,cl,clg,A3,br,XP,hI,vz,vy,vw,lr,Ah,Pg,QI,lr]at e
 rw[hi]at e
 unfold IU GG
 simp only[Yg]at e
 generalize Pk v.text=w at e
 simp[k,l,m,o]at e
 split at e
 ·cases e
 ·rename_i c
  simp only[not_or,Decidable.not_not,Classical.not_imp,Int.not_lt]at c
  obtain⟨⟨⟨d,f⟩,b⟩,⟨⟨g,i⟩,j⟩,c6⟩:=c
  refine⟨d,f,b,g,i,j,c6,fun a=>?_,fun a=>?_⟩
  ·rw[b]at a
   simp only[a,if_true]at e
   split at e<;>simp_all
  ·rw[b]at a
   simp only[a,if_false]at e
   split at e<;>simp_all
theorem I8(n:Int)(v:Val)(h:SzV v):Ok (fun b=>b=true→IU n v) (Jt n v):=by
 have a:=h.t
 have q:Ok Tr (Jt n v):=by
  have c:Ok Tr (Po n):=⟨_,rfl,trivial⟩
  dsimp only[Jt,QG,br,vz,vy,vw,lr,cl,clg,A3,br]
  (repeat' (first|with_reducible refine Ok.br (fun _=>?_) (fun _=>?_)|with_reducible refine Ok.pure ?_|(with_reducible apply Ok.bind;(exact c);intro _ _)|(with_reducible apply Ok.bind;(exact o3 _);intro _ _)|(with_reducible apply Ok.bind;(exact pT _);intro _ _)|(with_reducible apply Ok.bind;(exact iH _ a);intro _ _)|(with_reducible apply Ok.clg;(exact fun _=>c);intro _)|(with_reducible apply Ok.clg;(exact fun _=>o3 _);intro _)|(with_reducible apply Ok.clg;(exact fun _=>pT _);intro _)|(with_reducible apply Ok.clg;(exact fun _=>iH _ a);intro _)|with_reducible refine Ok.if ?_ ?_))<;>(first|trivial|assumption|contradiction|omega|grind|(simp only[Bd.c,Bd.vl,ByteArray.size_append,ByteArray.size_extract,AE]at*;grind))
 obtain⟨b,e,_⟩:=q
 exact⟨b,e,fun d=>ZNr h (d▸e)⟩
theorem qg(v:Val)(h:SzV v):Ok SzV (XQ v):=by
 dsimp only[XQ,dt,br,vw,lr,clg,br]
 (repeat' (first|with_reducible refine Ok.br (fun _=>?_) (fun _=>?_)|with_reducible refine Ok.pure ?_|(with_reducible apply Ok.bind;(exact o5 _);intro _ _)|(with_reducible apply Ok.clg;(exact fun _=>o5 _);intro _)|with_reducible refine Ok.if ?_ ?_))<;>first|exact h|exact⟨h.t,h.l,h.p,h.s,h.r⟩
theorem ZTg(x:Nt)(h:SzN x):Ok Tr (X6 x):=by
 dsimp only[X6,dy,vw,lr,cl,clg]
 (repeat' (first|with_reducible refine Ok.br (fun _=>?_) (fun _=>?_)|with_reducible refine Ok.pure ?_|(with_reducible apply Ok.bind;(exact Xt _);intro _ _)|(with_reducible apply Ok.bind;(exact I8 _ _ h.v);intro _ _)|(with_reducible apply Ok.clg;(exact fun _=>Xt _);intro _)|(with_reducible apply Ok.clg;(exact fun _=>I8 _ _ h.v);intro _)|with_reducible refine Ok.if ?_ ?_))<;>(first|trivial|assumption|contradiction|omega|grind|(simp only[Bd.c,Bd.vl,ByteArray.size_append,ByteArray.size_extract,AE]at*;grind))
theorem ZR6(l:List Nt)(n:Int)(h:Fx l):Ok Tr (X7 l n):=by
 obtain⟨b,a⟩:=h
 have q:Ok Ts (Am (QM l n) Ai 0):=by
  refine Ok.loop (fun v:Nat=>v≤l.length) (fun v:Nat=>l.length-v) (by omega) (AW (by omega)) fun v c=>?_
  dsimp only[QM,dR,br,ix,A8,vz,vs,vg,Ay,ln,Al,cl,wa,wi,Ah,br]
  (repeat' (first|with_reducible refine Ok.br (fun _=>?_) (fun _=>?_)|with_reducible refine Ok.pure ?_|with_reducible refine Ok.idx ?_ (fun _ _ _=>?_)|(with_reducible apply Ok.bind;(exact Xt _);intro _ _)|(with_reducible apply Ok.bind;(exact ZR2 _ _);intro _ _)|(with_reducible apply Ok.bind;(exact ZTg _ (a _ (by assumption)));intro _ _)|with_reducible refine Ok.idxg ?_ (fun _=>?_)|with_reducible refine Ok.if ?_ ?_))<;>(first|trivial|assumption|contradiction|omega|grind|(simp only[Bd.c,Bd.vl,ByteArray.size_append,ByteArray.size_extract,AE]at*;grind))
 dsimp only[X7,fC,ek,cL,br,vz,lr,lc,Ah,br]
 (repeat' (first|with_reducible refine Ok.br (fun _=>?_) (fun _=>?_)|with_reducible refine Ok.pure ?_|(with_reducible apply Ok.lb;(exact q);all_goals(intro _ _;try dsimp only))|with_reducible refine Ok.if ?_ ?_))<;>(first|trivial|assumption|contradiction|omega|grind|(simp only[Bd.c,Bd.vl,ByteArray.size_append,ByteArray.size_extract,AE]at*;grind))
end Go.Proofs.YtchkcemlglpobaaGreat
