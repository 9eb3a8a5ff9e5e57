import Derived.Test.YtpljiekkimkceaaDoorUa08
import Derived.Test.YtpljiekkimkceaaDoorRows
import Derived.WalkKit
import Derived.ProofKit
import Derived.OpenShut
import Derived.Carry
import Derived.Deep.DeepHandedRow
import Derived.Test.YtpljiekkimkceaaDoorUa12
import Derived.Test.YtpljiekkimkceaaDoorUa09
import Derived.Test.YtpljiekkimkceaaDoorUa11
import Derived.Test.YtpljiekkimkceaaDoorUa00
namespace Go.Proofs.YtpljiekkimkceaaDoor
set_option linter.all false
open Go Go.Eng Go.ChangeShapes Go.WideShapes Go.ChangeAt Go.RowKit
theorem NY{H:Type}(b:List UInt8):Rows.uptoBulk (DataW.lit (H:=H) (.string b))=b.length+1:=by simp only[Rows.uptoBulk]
theorem RV{H:Type}(a b:List (DataW H)):Rows.uptoBulk (.slice a b)=Rows.uptoBulkAll a+Rows.uptoBulkAll b+1:=by simp only[Rows.uptoBulk]
theorem Tx{H:Type}(a:List (DataW H)):Rows.uptoBulk (.agg a)=Rows.uptoBulkAll a+1:=by simp only[Rows.uptoBulk]
def DU(W:World)(ds:List D)(cs:List Value)(o:Nat):Prop:=∀(i:Nat) (d:D),ds[i]?=some d→∃c,cs[o+i]?=some c∧RepD W (· <W.heap.size) d c
def Ey(W:World)(ds:List D)(cs:List Value):Prop:=ds.length=cs.length∧DU W ds cs 0
theorem DU.app{W:World}{ds es:List D}{cs:List Value}{o:Nat}(h:DU W ds cs o)(k:DU W es cs (o+ds.length)):DU W (ds++es) cs o:=fun i d hi=>by
 rcases Yq i ds.length with hl|hl
 ·rw[Yh hl]at hi;exact h i d hi
 ·rw[Yk hl]at hi
  obtain⟨c,a,b⟩:=k _ d hi
  grind
theorem DU.nil{W:World}{cs:List Value}{o:Nat}:DU W [] cs o:=fun i d h=>by simp at h
theorem Ey.at{W:World}{ds:List D}{cs:List Value}{o k:Nat}(h:Ey W ds ((cs.drop o).take k)):DU W ds cs o:=fun i d hi=>by
 obtain⟨c,a,b⟩:=h.2 i d hi
 grind
def rk(k:IntKind)(n:Int):Nat:=if Lit.wf (.int k n)=true then 0 else 1000000000000
mutual
def bk:D→Nat
 |.int k n=>rk k n
 |.bool _=>0
 |.str s=>s.size
 |.list es=>CM es
 |.map _ es=>CM es
def As:List D→Nat
 |[]=>0
 |d::l=>bk d+As l
def CM:List (List D)→Nat
 |[]=>0
 |e::l=>As e+1+CM l
end
theorem Ol:∀a b:List D,As (a++b)=As a+As b
 |[],b=>by rw[Y6,As,YH]
 |d::a,b=>by rw[Em,As,As,Ol a b,Yr]
theorem KD(d:D):As [d]=bk d:=by rw[As,As,CR]
theorem BN{α:Type}{e:α→List D}:∀l:List α,l.length≤CM (l.map e)
 |[]=>CT _
 |x::l=>by have:=BN (e:=e) l;rw[YK,CM,YQ];omega
theorem Dq{α:Type}{e:α→List D}{x:α}:∀{l:List α},x∈l→As (e x)+1≤CM (l.map e)
 |y::l,h=>by
  rw[YK,CM]
  cases YG.1 h with
  |inl h=>subst h;omega
  |inr h=>have:=Dq (e:=e) h;omega
section
variable {H:Type} (enc:TypeId×Value→H) (P:Program) (W:World)
def AX{α:Type}(n:Nat)(t:TypeId)(e:α→List D):Prop:=
 ∀cs x,DataW.trod enc P W 0 (fun _=>true) true n t cs=some x→∃v:α,Ey W (e v) cs∧As (e v)+1≤Rows.uptoBulk x.1
end
section
variable {H:Type} {enc:TypeId×Value→H} {P:Program} {W:World} {n:Nat} {t:TypeId}
theorem Ko(d:DataW H):1≤Rows.uptoBulk d:=by cases d<;>(try (rename_i l;cases l))<;>simp[Rows.uptoBulk]
theorem Gk{d:D}{c:Value}(h:RepD W (· <W.heap.size) d c):Ey W [d] [c]:=⟨rfl,fun i d' hi=>by
 cases i with
 |zero=>cases hi;exact⟨c,rfl,h⟩
 |succ i=>simp at hi⟩
theorem BZ{k:IntKind}(a:P.underlying t=some (.int k)):AX enc P W n t (fun v:Int=>[.int k v]):=fun cs x c=>by
 obtain⟨m,rfl,rfl,b⟩:=DataW.trod_int a c
 refine⟨m,Gk (.int _ _),?_⟩
 rw[KD,bk,rk,Yt b]
 exact Ko _
theorem Oi(a:P.underlying t=some .bool):AX enc P W n t (fun v:Bool=>[.bool v]):=fun cs x b=>by
 obtain⟨m,rfl,rfl⟩:=DataW.trod_bool a b
 exact⟨m,Gk (.bool _),Ko _⟩
theorem B2(a:P.underlying t=some .string):AX enc P W n t (fun v:ByteArray=>[.str v]):=fun cs x b=>by
 obtain⟨m,rfl,rfl,_⟩:=DataW.trod_string a b
 refine⟨m,Gk (.str _),?_⟩
 rw[NY,KD]
 exact Yc _
theorem OW{α:Type}{e:α→List D}:∀(l:List α) (xs:List (DataW H×List MemPlace)),l.length=xs.length→(∀(i:Nat) (v:α),l[i]?=some v→∃y:DataW H×List MemPlace,xs[i]?=some y∧As (e v)+1≤Rows.uptoBulk y.1)→CM (l.map e)≤Rows.uptoBulkAll (xs.map (·.1))
 |[],_,_,_=>CT _
 |x::l,[],h,_=>by cases h
 |x::l,y::xs,h,k=>by
  have:=OW l xs (JB h) (fun i v hi=>k (i+1) v hi)
  obtain⟨c,a,b⟩:=k 0 x rfl
  cases a
  rw[YK,YK,CM]
  simp only[Rows.uptoBulkAll]
  omega
theorem Ob{α:Type}{Q:Nat→α→Prop}:∀(len:Nat),(∀i,i<len→∃v,Q i v)→∃l:List α,l.length=len∧∀i v,l[i]?=some v→Q i v
 |0,_=>⟨[],rfl,fun i v h=>by simp at h⟩
 |len+1,h=>by
  obtain⟨l,a,b⟩:=Ob len (fun i hi=>h i (by omega))
  obtain⟨v,c⟩:=h len (by omega)
  refine⟨l++[v],by simp[a],fun i w hi=>?_⟩
  grind
theorem Bp{α:Type}{e:TypeId}{b:α→List D}{sz:Nat}(T:P.underlying t=some (.slice e))(C:P.cellsOf e=sz)(R:sz≠0)(hl:∀x,(b x).length=sz)(h:∀m,m<n→AX enc P W m e b):
  AX enc P W n t (fun l:List α=>[.list (l.map b)]):=fun cs x U=>by
 rcases DataW.trod_slice T U with⟨rfl,rfl⟩|⟨a,len,cap,g,G,m,rfl,rfl,rfl,X,u,O,Q,hi,_,_⟩
 ·exact⟨[],Gk .nil,Ko _⟩
 ·have k:∀i,i<len→∃v:α,∃y f,g[i]?=some y∧W.cells? 0 (a.add (i*sz)) sz=some f∧Ey W (b v) f∧As (b v)+1≤Rows.uptoBulk y.1:=fun i A=>by
   have F:=hi i A
   rw[Yb (by omega),C]at F
   obtain⟨f,K,L⟩:=Mi.1 F
   obtain⟨v,M,N⟩:=h m (by omega) f _ L
   exact⟨v,_,f,Yb (by omega),K,M,N⟩
  obtain⟨l,z,q⟩:=Ob len k
  have cell:∀(i j:Nat) (e':List D) (x:D),(l.map b)[i]?=some e'→e'[j]?=some x→∃c,W.cell? (a.add (i*sz+j))=some c∧RepD W (· <W.heap.size) x c:=fun i j e' x d o=>by
   rw[Yn]at d
   cases r:l[i]? with
   |none=>rw[r]at d;cases d
   |some v=>
    rw[r]at d
    cases d
    obtain⟨y,f,g1,p,g3,g4⟩:=q i v r
    obtain⟨c,E,H⟩:=g3.2 j x o
    rw[YH]at E
    obtain⟨_,V,I⟩:=World.cells?_some p
    have s:j<sz:=by
     rw[←hl v]
     rcases Yq j (b v).length with h|h
     ·exact h
     ·rw[Yx h]at o;cases o
    refine⟨c,?_,H⟩
    rw[←Go.Eng.add_add,I j s,E]
  refine⟨l,Gk ?_,?_⟩
  ·have hlen:(l.map b).length=len:=by simp[z]
   have:=RepD.list (w:=W) (S:=(· <W.heap.size)) (l.map b) a sz cap (fun i j=>(W.cell? (a.add (i*sz+j))).getD undef) (fun B=>by
     have J:0<len:=by
      rcases Jr len with h|h
      ·exact absurd (YL (hlen.trans h)) B
      ·exact h
     obtain⟨v,y,f,_,p,_⟩:=k 0 J
     have:=World.cells?_block p (by omega)
     rw[Hr]at this
     rw[←Go.Eng.block_add a 0];exact this)
    (by rw[hlen];exact u) (fun e' he=>by obtain⟨y,_,rfl⟩:=YD.1 he;exact hl y)
    (fun i j e' x d o=>by obtain⟨c,g1,_⟩:=cell i j e' x d o;rw[g1];rfl)
    (fun i j e' x d o=>by obtain⟨c,g1,p⟩:=cell i j e' x d o;rw[g1];exact p)
   rw[hlen]at this
   exact this
  ·rw[RV,KD,bk]
   have:=OW (e:=b) l g (by omega) (fun i v r=>by
    obtain⟨y,f,g1,p,g3,g4⟩:=q i v r
    exact⟨y,g1,g4⟩)
   omega
def FB(xs:List (DataW H×List MemPlace))(i:Nat):Nat:=Rows.uptoBulkAll ((xs.drop i).map (·.1))
theorem AA{xs:List (DataW H×List MemPlace)}{i:Nat}{a b:List D}(h:As a+1+FB xs (i+1)≤FB xs i)(k:As b≤FB xs (i+1)):As (a++b)≤FB xs i:=by
 rw[Ol];omega
theorem B0{xs:List (DataW H×List MemPlace)}{i:Nat}{a:List D}(h:As a+1+FB xs (i+1)≤FB xs i):As a≤FB xs i:=by omega
theorem BY{xs:List (DataW H×List MemPlace)}{a:List D}(h:As a≤FB xs 0):As a+1≤Rows.uptoBulk (.agg (xs.map (·.1))):=by
 rw[Tx];exact Nat.succ_le_succ h
theorem Tt{α:Type}{e:α→List D}{m i:Nat}{c:TypeId}{a:List Value}{xs:List (DataW H×List MemPlace)}(h:AX enc P W m c e)(b:DataW.trod enc P W 0 (fun _=>true) true m c a=xs[i]?)(hi:i<xs.length):
  ∃v,Ey W (e v) a∧As (e v)+1+FB xs (i+1)≤FB xs i:=by
 rw[Yb hi]at b
 obtain⟨v,d,f⟩:=h _ _ b
 refine⟨v,d,?_⟩
 unfold FB
 rw[F8 hi,YK]
 simp only[Rows.uptoBulkAll]
 omega
theorem rf{α:Type}{e:α→List D}{m i k:Nat}{b:TypeId}{a:List Value}{xs:List (DataW H×List MemPlace)}(h:AX enc P W m b e)(c:DataW.trod enc P W 0 (fun _=>true) true m b a=xs[i]?)(d:xs.length=k)(hi:Nat.blt i k=true:=by kernel_rfl):
  ∃v,Ey W (e v) a∧As (e v)+1+FB xs (i+1)≤FB xs i:=Tt h c (by rw[d];exact Yf hi)
theorem K7{α:Type}{e e':α→List D}(he:∀x,e x=e' x)(h:AX enc P W n t e'):AX enc P W n t e:=fun cs x a=>by
 obtain⟨v,b,c⟩:=h cs x a
 grind
theorem T2{α:Type}{e:α→List D}{q:Array Field}{r:Reach}{b:Nat}{v:Value}{d:DataW H}{p:List MemPlace}(rd:∀n,AX enc P W n t e)(w:P.underlying t=some (.struct q))(z:Value.okWide P W r b t v)
  (h:DataW.Trod enc P W 0 (fun _=>true) true t v d p):∃x:α,(∀m l,RepA W (· <W.heap.size) (fun _=>⟨0,false,0,0,[]⟩) m l (.agg ((e x).map .d)) v)∧As (e x)+1≤Rows.uptoBulk d:=by
 obtain⟨cs,rfl,_⟩:=okWide_struct w z
 obtain⟨n,u⟩:=h
 obtain⟨x,k,s⟩:=rd n _ _ u
 have hl:(e x).length=cs.size:=by rw[k.1];simp[Value.cells]
 have key:∀(i:Nat) (c:Value),cs[i]?=some c→∃d,(e x)[i]?=some d∧RepD W (· <W.heap.size) d c:=fun i c f=>by
  have g:i<(e x).length:=by
   grind
  obtain⟨j,a,o⟩:=k.2 i _ (Yb g)
  have:j=c:=by
   rw[YH]at a
   have:cs.toList[i]?=some j:=a
   grind
  grind
 refine⟨x,fun m l=>.agg _ _ (by rw[Ym,hl]) (fun i c f=>?_) (fun i y c hy f=>?_),s⟩
 ·obtain⟨d,_,a⟩:=key i c f;exact a.one
 ·obtain⟨d,a,o⟩:=key i c f
  rw[Yn,a]at hy
  cases hy
  exact .d _ _ o
theorem Uj{r:Reach}{a:Nat}{v:Value}{d:DataW H}{p:List MemPlace}(e:P.underlying t=some .string)(g:Value.okWide P W r a t v)(h:DataW.Trod enc P W 0 (fun _=>true) true t v d p):
  ∃x:ByteArray,(∀S Hp m l,RepA W S Hp m l (.d (.str x)) v)∧x.size+1≤Rows.uptoBulk d:=by
 obtain⟨x,rfl⟩:=okWide_string e g
 obtain⟨n,f⟩:=h
 obtain⟨s,b,c,_⟩:=DataW.trod_string e f
 have b:x=s:=by simpa[Value.cells]using b
 subst b
 have c:d=.lit (.string x.data.toList):=congrArg Prod.fst c
 subst c
 refine⟨x,fun _ _ _ _=>.d _ _ (.str _),?_⟩
 rw[NY]
 exact Yc _
def L9:Hp:=fun _=>⟨0,false,0,0,[]⟩
theorem Wy(m:Mu):Ok 0 L9 m (· <W.heap.size) W:=⟨fun _ h=>h,fun _ _ h=>(by cases h),fun _ _ h=>(by cases h),fun _ _ _ _ h=>(by cases h),fun _ _ h=>(by cases h),⟨fun _ _ h=>(by cases h),fun _ _ h=>(by cases h),fun _ _ _ _ h=>(by cases h)⟩⟩
def Qi(w:World)(S:Nat→Prop)(Hp:Hp)(m:Mu)(l:Nat):List AV→List Value→Prop
 |[],[]=>True
 |x::xs,v::vs=>RepA w S Hp m l x v∧Qi w S Hp m l xs vs
 |_,_=>False
theorem TU{w:World}{S:Nat→Prop}{Hp:Hp}{m:Mu}{l:Nat}{xs:List AV}{vs:List Value}(h:Qi w S Hp m l xs vs):Es w S Hp m l xs vs.toArray:=by
 suffices b:xs.length=vs.length∧∀(i:Nat) (x:AV) (v:Value),xs[i]?=some x→vs[i]?=some v→RepA w S Hp m l x v by
  exact⟨by simpa using b.1,fun i x v f e=>b.2 i x v f (by simpa using e)⟩
 induction xs generalizing vs with
 |nil=>cases vs with
  |nil=>exact⟨rfl,fun i x v h=>by simp at h⟩
  |cons _ _=>exact h.elim
 |cons x xs g=>cases vs with
  |nil=>exact h.elim
  |cons v vs=>
   obtain⟨c,d⟩:=g h.2
   refine⟨by simp[c],fun i y u hy a=>?_⟩
   cases i with
   |zero=>simp at hy a;subst hy;subst a;exact h.1
   |succ i=>exact d i y u (by simpa using hy) (by simpa using a)
theorem S0{f:Func}{s:ChangeSpec}{n:World}{args:Array Value}{ds z:List (DataW H)}{e:List MemPlace}{u:TypeId}(B:DataW.Whole enc P f.params.toList s.vars false W args.toList ds z e)(c:s.vars=[])
  (k:laidOutB P=true) (y:∀t∈f.params.toList,P.readableRec t=true∧t<P.types.size) (g:f.resultTypes.toList=[u]) (K:P.underlying u=some .bool)
  (j:s.fn H (ds++z)={results:=[.lit (.bool true)],args:=ds }) (m:Below W.heap.size W n):s.post enc P f false true false false W args (.bool true) n:=by
 obtain⟨p,q,F,A,rfl,G,I⟩:=id B
 rw[c]at A
 obtain⟨rfl,rfl⟩:=trodVars_none A
 refine⟨ds,[],p++[],[],p,[],B,?_,?_,?_,?_,fun h=>by cases h⟩
 ·rw[j,g]
  have:(Value.bool true).resultList f.resultTypes.size=[.bool true]:=by
   have:f.resultTypes.size=1:=by rw[←Y5,g];rfl
   rw[this];rfl
  rw[this]
  exact trodAll_cons_mk (shut_bool K _) trodAll_mk0
 ·rw[j]
  have key:∀(l:List TypeId) (vs:List Value) (es:List (DataW H)) (ps:List MemPlace),(∀t∈l,P.readableRec t=true∧t<P.types.size)→DataW.TrodAll enc P W 0 (fun _=>true) true l vs es ps→
    DataW.TrodAll enc P n 0 (fun b=>decide (b<W.heap.size)) true l vs es ps:=by
   intro l
   induction l with
   |nil=>intro vs es ps _ h;obtain⟨rfl,rfl,rfl⟩:=trodAll_nil h;exact trodAll_mk0
   |cons t l M=>
    intro vs es ps w h
    have r:=DataW.TrodAll.lt h
    obtain⟨v,N,d,C,a,b,rfl,rfl,rfl,D,E⟩:=trodAll_cons h
    exact trodAll_cons_mk (Below.trod k (w t (by simp)).1 (w t (by simp)).2 D m (fun x L=>r x (EQ _ L))) (M _ _ _ (fun t J=>w t (by simp[J])) E)
  exact key _ _ _ _ y F
 ·rw[c,j];exact rfl
 ·refine⟨m.os,m.output,fun i hi=>?_⟩
  rw[m.block i hi]
  cases W.heap[i]? with
  |none=>rfl
  |some o=>cases o<;>simp
end
end Go.Proofs.YtpljiekkimkceaaDoor
namespace Go.Proofs.YtpljiekkimkceaaDoor
set_option linter.all false
open Go Go.Eng
section
variable {H:Type} {enc:TypeId×Value→H} {W:World}
set_option maxRecDepth 100000
theorem U7(n:Nat):AX enc Tryd.prog W n 157 Dz:=fun cs x h=>by
 obtain⟨xs,m,rfl,rfl,c,a,b⟩:=DataW.trod_struct Tryd.underlying157 h
 obtain⟨v0,i,d⟩:=rf (BZ Tryd.underlying3) (b 0 _ rfl) a
 obtain⟨o,j,e⟩:=rf (BZ Tryd.underlying3) (b 1 _ rfl) a
 obtain⟨v2,k,f⟩:=rf (BZ Tryd.underlying62) (b 2 _ rfl) a
 obtain⟨v3,l,g⟩:=rf (B2 Tryd.underlying9) (b 3 _ rfl) a
 have q:=BY (AA d (AA e (AA f (B0 g))))
 exact⟨.mk v0 o v2 v3,⟨by rw[c];kernel_rfl,(i.at.app (j.at.app (k.at.app l.at)))⟩,q⟩
theorem Te(n:Nat)(h:∀k,k<n→AX enc Tryd.prog W k 68 B8):AX enc Tryd.prog W n 153 Lx:=fun cs x f=>by
 obtain⟨xs,m,rfl,rfl,b,a,c⟩:=DataW.trod_struct Tryd.underlying153 f
 obtain⟨v0,g,d⟩:=rf (h m (by omega)) (c 0 _ rfl) a
 obtain⟨j,i,e⟩:=rf (h m (by omega)) (c 1 _ rfl) a
 have q:=BY (AA d (B0 e))
 exact⟨.mk v0 j,⟨by rw[b];kernel_rfl,(g.at.app i.at)⟩,q⟩
theorem Sq(n:Nat)(h:∀k,k<n→AX enc Tryd.prog W k 68 B8):AX enc Tryd.prog W n 155 Lp:=fun cs x f=>by
 obtain⟨xs,m,rfl,rfl,b,a,c⟩:=DataW.trod_struct Tryd.underlying155 f
 obtain⟨v0,g,d⟩:=rf (BZ Tryd.underlying3) (c 0 _ rfl) a
 obtain⟨j,i,e⟩:=rf (h m (by omega)) (c 1 _ rfl) a
 have q:=BY (AA d (B0 e))
 exact⟨.mk v0 j,⟨by rw[b];kernel_rfl,(g.at.app i.at)⟩,q⟩
theorem OF(n:Nat):AX enc Tryd.prog W n 68 B8:=by
 induction n using Nat.strongRecOn with
 |ind n e=>
 intro cs x s
 obtain⟨xs,m,rfl,rfl,c,a,b⟩:=DataW.trod_struct Tryd.underlying68 s
 obtain⟨v0,t,f⟩:=rf (BZ Tryd.underlying3) (b 0 _ rfl) a
 obtain⟨B,u,g⟩:=rf (BZ Tryd.underlying62) (b 1 _ rfl) a
 obtain⟨v2,v,h⟩:=rf (B2 Tryd.underlying9) (b 2 _ rfl) a
 obtain⟨v3,w,i⟩:=rf (Bp Tryd.underlying63 (by kernel_rfl:Tryd.prog.cellsOf 68=7) (by decide) (fun x=>by rw[H6];rfl) (fun k d=>(K7 H6 (e k (by omega))))) (b 3 _ rfl) a
 obtain⟨v4,y,l⟩:=rf (Bp Tryd.underlying64 (by kernel_rfl:Tryd.prog.cellsOf 153=14) (by decide) (fun x=>by rw[OI];rfl) (fun k d=>(K7 OI (Te k (fun j r=>e j (by omega)))))) (b 4 _ rfl) a
 obtain⟨v5,z,o⟩:=rf (Bp Tryd.underlying65 (by kernel_rfl:Tryd.prog.cellsOf 155=8) (by decide) (fun x=>by rw[Oq];rfl) (fun k d=>(K7 Oq (Sq k (fun j r=>e j (by omega)))))) (b 5 _ rfl) a
 obtain⟨C,A,p⟩:=rf (Bp Tryd.underlying66 (by kernel_rfl:Tryd.prog.cellsOf 157=4) (by decide) (fun _=>rfl) (fun k d=>(U7 k))) (b 6 _ rfl) a
 have q:=BY (AA f (AA g (AA h (AA i (AA l (AA o (B0 p)))))))
 exact⟨.mk v0 B v2 v3 v4 v5 C,⟨by rw[c];kernel_rfl,(t.at.app (u.at.app (v.at.app (w.at.app (y.at.app (z.at.app A.at))))))⟩,q⟩
theorem U9(n:Nat):AX enc Tryd.prog W n 61 VC:=fun cs x f=>by
 obtain⟨xs,m,rfl,rfl,b,a,c⟩:=DataW.trod_struct Tryd.underlying61 f
 obtain⟨v0,g,d⟩:=rf (BZ Tryd.underlying3) (c 0 _ rfl) a
 obtain⟨i,h,e⟩:=rf (B2 Tryd.underlying9) (c 1 _ rfl) a
 have q:=BY (AA d (B0 e))
 exact⟨.mk v0 i,⟨by rw[b];kernel_rfl,(g.at.app h.at)⟩,q⟩
theorem Fv(n:Nat):AX enc Tryd.prog W n 81 AE:=fun cs x f=>by
 obtain⟨xs,m,rfl,rfl,b,a,c⟩:=DataW.trod_struct Tryd.underlying81 f
 obtain⟨v0,g,d⟩:=rf (B2 Tryd.underlying9) (c 0 _ rfl) a
 obtain⟨i,h,e⟩:=rf (OF m) (c 1 _ rfl) a
 have q:=BY (AA d (B0 e))
 exact⟨.mk v0 i,⟨by rw[b];kernel_rfl,(g.at.app h.at)⟩,q⟩
theorem Vc(n:Nat):AX enc Tryd.prog W n 70 AM:=fun cs x p=>by
 obtain⟨xs,m,rfl,rfl,c,a,b⟩:=DataW.trod_struct Tryd.underlying70 p
 obtain⟨v0,r,d⟩:=rf (BZ Tryd.underlying3) (b 0 _ rfl) a
 obtain⟨B,s,e⟩:=rf (B2 Tryd.underlying9) (b 1 _ rfl) a
 obtain⟨v2,t,f⟩:=rf (BZ Tryd.underlying3) (b 2 _ rfl) a
 obtain⟨v3,u,g⟩:=rf (BZ Tryd.underlying3) (b 3 _ rfl) a
 obtain⟨v4,v,h⟩:=rf (U9 m) (b 4 _ rfl) a
 obtain⟨v5,w,i⟩:=rf (B2 Tryd.underlying9) (b 5 _ rfl) a
 obtain⟨C,y,j⟩:=rf (Oi Tryd.underlying4) (b 6 _ rfl) a
 obtain⟨D,z,l⟩:=rf (OF m) (b 7 _ rfl) a
 obtain⟨E,A,o⟩:=rf (Bp Tryd.underlying30 (by kernel_rfl:Tryd.prog.cellsOf 81=8) (by decide) (fun _=>rfl) (fun k F=>(Fv k))) (b 8 _ rfl) a
 have q:=BY (AA d (AA e (AA f (AA g (AA h (AA i (AA j (AA l (B0 o)))))))))
 exact⟨.mk v0 B v2 v3 v4 v5 C D E,⟨by rw[c];kernel_rfl,(r.at.app (s.at.app (t.at.app (u.at.app (v.at.app (w.at.app (y.at.app (z.at.app A.at))))))))⟩,q⟩
theorem OX(n:Nat):AX enc Tryd.prog W n 86 BL:=fun cs x f=>by
 obtain⟨xs,m,rfl,rfl,b,a,c⟩:=DataW.trod_struct Tryd.underlying86 f
 obtain⟨v0,g,d⟩:=rf (BZ Tryd.underlying3) (c 0 _ rfl) a
 obtain⟨i,h,e⟩:=rf (BZ Tryd.underlying3) (c 1 _ rfl) a
 have q:=BY (AA d (B0 e))
 exact⟨.mk v0 i,⟨by rw[b];kernel_rfl,(g.at.app h.at)⟩,q⟩
theorem U2(n:Nat):AX enc Tryd.prog W n 32 Am:=fun cs x j=>by
 obtain⟨xs,m,rfl,rfl,c,a,b⟩:=DataW.trod_struct Tryd.underlying32 j
 obtain⟨v0,l,e⟩:=rf (B2 Tryd.underlying9) (b 0 _ rfl) a
 obtain⟨t,o,f⟩:=rf (Bp Tryd.underlying27 (by kernel_rfl:Tryd.prog.cellsOf 70=16) (by decide) (fun _=>rfl) (fun k d=>(Vc k))) (b 1 _ rfl) a
 obtain⟨v2,p,g⟩:=rf (Bp Tryd.underlying28 (by kernel_rfl:Tryd.prog.cellsOf 86=2) (by decide) (fun _=>rfl) (fun k d=>(OX k))) (b 2 _ rfl) a
 obtain⟨v3,r,h⟩:=rf (Bp Tryd.underlying29 (by kernel_rfl:Tryd.prog.cellsOf 9=1) (by decide) (fun _=>rfl) (fun k d=>(B2 Tryd.underlying9))) (b 3 _ rfl) a
 obtain⟨v4,s,i⟩:=rf (Bp Tryd.underlying30 (by kernel_rfl:Tryd.prog.cellsOf 81=8) (by decide) (fun _=>rfl) (fun k d=>(Fv k))) (b 4 _ rfl) a
 have q:=BY (AA e (AA f (AA g (AA h (B0 i)))))
 exact⟨.mk v0 t v2 v3 v4,⟨by rw[c];kernel_rfl,(l.at.app (o.at.app (p.at.app (r.at.app s.at))))⟩,q⟩
theorem Vd(n:Nat):AX enc Tryd.prog W n 72 Eb:=fun cs x g=>by
 obtain⟨xs,m,rfl,rfl,b,a,c⟩:=DataW.trod_struct Tryd.underlying72 g
 obtain⟨v0,h,d⟩:=rf (B2 Tryd.underlying9) (c 0 _ rfl) a
 obtain⟨l,i,e⟩:=rf (BZ Tryd.underlying3) (c 1 _ rfl) a
 obtain⟨v2,j,f⟩:=rf (Bp Tryd.underlying30 (by kernel_rfl:Tryd.prog.cellsOf 81=8) (by decide) (fun _=>rfl) (fun k o=>(Fv k))) (c 2 _ rfl) a
 have q:=BY (AA d (AA e (B0 f)))
 exact⟨.mk v0 l v2,⟨by rw[b];kernel_rfl,(h.at.app (i.at.app j.at))⟩,q⟩
theorem Vf(n:Nat):AX enc Tryd.prog W n 37 Ay:=fun cs x j=>by
 obtain⟨xs,m,rfl,rfl,c,a,b⟩:=DataW.trod_struct Tryd.underlying37 j
 obtain⟨v0,l,e⟩:=rf (B2 Tryd.underlying9) (b 0 _ rfl) a
 obtain⟨t,o,f⟩:=rf (Oi Tryd.underlying4) (b 1 _ rfl) a
 obtain⟨v2,p,g⟩:=rf (Bp Tryd.underlying35 (by kernel_rfl:Tryd.prog.cellsOf 72=3) (by decide) (fun _=>rfl) (fun k d=>(Vd k))) (b 2 _ rfl) a
 obtain⟨v3,r,h⟩:=rf (Bp Tryd.underlying28 (by kernel_rfl:Tryd.prog.cellsOf 86=2) (by decide) (fun _=>rfl) (fun k d=>(OX k))) (b 3 _ rfl) a
 obtain⟨v4,s,i⟩:=rf (Bp Tryd.underlying30 (by kernel_rfl:Tryd.prog.cellsOf 81=8) (by decide) (fun _=>rfl) (fun k d=>(Fv k))) (b 4 _ rfl) a
 have q:=BY (AA e (AA f (AA g (AA h (B0 i)))))
 exact⟨.mk v0 t v2 v3 v4,⟨by rw[c];kernel_rfl,(l.at.app (o.at.app (p.at.app (r.at.app s.at))))⟩,q⟩
theorem UY(n:Nat):AX enc Tryd.prog W n 74 D5:=fun cs x i=>by
 obtain⟨xs,m,rfl,rfl,c,a,b⟩:=DataW.trod_struct Tryd.underlying74 i
 obtain⟨v0,j,d⟩:=rf (B2 Tryd.underlying9) (b 0 _ rfl) a
 obtain⟨s,l,e⟩:=rf (B2 Tryd.underlying9) (b 1 _ rfl) a
 obtain⟨v2,o,f⟩:=rf (B2 Tryd.underlying9) (b 2 _ rfl) a
 obtain⟨v3,p,g⟩:=rf (BZ Tryd.underlying3) (b 3 _ rfl) a
 obtain⟨v4,r,h⟩:=rf (Bp Tryd.underlying30 (by kernel_rfl:Tryd.prog.cellsOf 81=8) (by decide) (fun _=>rfl) (fun k t=>(Fv k))) (b 4 _ rfl) a
 have q:=BY (AA d (AA e (AA f (AA g (B0 h)))))
 exact⟨.mk v0 s v2 v3 v4,⟨by rw[c];kernel_rfl,(j.at.app (l.at.app (o.at.app (p.at.app r.at))))⟩,q⟩
theorem UR(n:Nat):AX enc Tryd.prog W n 42 Aw:=fun cs x h=>by
 obtain⟨xs,m,rfl,rfl,b,a,c⟩:=DataW.trod_struct Tryd.underlying42 h
 obtain⟨v0,i,d⟩:=rf (B2 Tryd.underlying9) (c 0 _ rfl) a
 obtain⟨o,j,e⟩:=rf (Bp Tryd.underlying40 (by kernel_rfl:Tryd.prog.cellsOf 74=5) (by decide) (fun _=>rfl) (fun k g=>(UY k))) (c 1 _ rfl) a
 obtain⟨v2,l,f⟩:=rf (Bp Tryd.underlying30 (by kernel_rfl:Tryd.prog.cellsOf 81=8) (by decide) (fun _=>rfl) (fun k g=>(Fv k))) (c 2 _ rfl) a
 have q:=BY (AA d (AA e (B0 f)))
 exact⟨.mk v0 o v2,⟨by rw[b];kernel_rfl,(i.at.app (j.at.app l.at))⟩,q⟩
theorem Vr(n:Nat):AX enc Tryd.prog W n 26 Bi:=fun cs x h=>by
 obtain⟨xs,m,rfl,rfl,b,a,c⟩:=DataW.trod_struct Tryd.underlying26 h
 obtain⟨v0,i,e⟩:=rf (Bp Tryd.underlying22 (by kernel_rfl:Tryd.prog.cellsOf 32=5) (by decide) (fun _=>rfl) (fun k d=>(U2 k))) (c 0 _ rfl) a
 obtain⟨o,j,f⟩:=rf (Bp Tryd.underlying23 (by kernel_rfl:Tryd.prog.cellsOf 37=5) (by decide) (fun _=>rfl) (fun k d=>(Vf k))) (c 1 _ rfl) a
 obtain⟨v2,l,g⟩:=rf (Bp Tryd.underlying24 (by kernel_rfl:Tryd.prog.cellsOf 42=3) (by decide) (fun _=>rfl) (fun k d=>(UR k))) (c 2 _ rfl) a
 have q:=BY (AA e (AA f (B0 g)))
 exact⟨.mk v0 o v2,⟨by rw[b];kernel_rfl,(i.at.app (j.at.app l.at))⟩,q⟩
end
end Go.Proofs.YtpljiekkimkceaaDoor
namespace Go.Eng
set_option linter.all false
open Go Go.RowKit
section
variable {σ ξ ρ α β γ:Type}
theorem EY{B:Nat→Option (Lv Nat ξ ρ)}{N:Nat}(l:List α)(p:α→Bool)(f:Nat→ρ)(e:ξ)
  (hs:∀i x,l[i]?=some x→B i=some (if p x=true then .rt (f i)else .nx (i+1))) (he:B l.length=some (.ex e)) (b:l.length<N):
  Av B N 0=some (match l.findIdx? p with|some i=>.inr (f i)|none=>.inl e):=by
 suffices H:∀k i N,i+k=l.length→k<N→Av B N i=some (match (l.drop i).findIdx? p with|some j=>.inr (f (i+j))|none=>.inl e)by
  have:=H l.length 0 N (by omega) b
  simpa using this
 intro k
 induction k with
 |zero=>
  intro i N hi b
  obtain⟨N,rfl⟩:∃m,N=m+1:=⟨N-1,by omega⟩
  have:i=l.length:=by omega
  subst this
  rw[Av,he,List.drop_length]
  rfl
 |succ k c=>
  intro i N hi b
  obtain⟨N,rfl⟩:∃m,N=m+1:=⟨N-1,by omega⟩
  have a:i<l.length:=by omega
  rw[Av,hs i l[i] (Yb a),F8 a,List.findIdx?_cons]
  cases d:p l[i]with
  |true=>simp
  |false=>
   simp only[Jp,Gh]
   rw[c (i+1) N (by omega) (by omega)]
   cases(List.drop (i+1) l).findIdx? p with
   |none=>rfl
   |some j=>simp[Yr,JD 1 j]
def Fh(R:List α→α→Option ρ):List α→List α→Option ρ
 |_,[]=>none
 |p,x::l=>match R p x with
  |some r=>some r
  |none=>Fh R (p++[x]) l
theorem Tg{B:σ→Option (Lv σ ξ ρ)}{N:Nat}(l:List α)(S:List α→β)(R:List α→α→Option ρ)(mk:Nat→β→σ)(e:β→ξ)
  (hs:∀i x,l[i]?=some x→B (mk i (S (l.take i)))=some (match R (l.take i) x with|some r=>.rt r|none=>.nx (mk (i+1) (S (l.take i++[x])))))
  (he:B (mk l.length (S l))=some (.ex (e (S l)))) (b:l.length<N):Av B N (mk 0 (S []))=some ((Fh R [] l).elim (.inl (e (S l))) .inr):=by
 suffices H:∀k i N,i+k=l.length→k<N→Av B N (mk i (S (l.take i)))=some ((Fh R (l.take i) (l.drop i)).elim (.inl (e (S l))) .inr)by
  have:=H l.length 0 N (by omega) b
  grind
 intro k
 induction k with
 |zero=>
  intro i N hi b
  obtain⟨N,rfl⟩:∃m,N=m+1:=⟨N-1,by omega⟩
  have:i=l.length:=by omega
  subst this
  rw[Av,Ge,he,List.drop_length]
  rfl
 |succ k c=>
  intro i N hi b
  obtain⟨N,rfl⟩:∃m,N=m+1:=⟨N-1,by omega⟩
  have a:i<l.length:=by omega
  rw[Av,hs i l[i] (Yb a),F8 a,Fh]
  cases R (l.take i) l[i]with
  |some r=>rfl
  |none=>
   have:=c (i+1) N (by omega) (by omega)
   rw[Ml a]at this
   exact this
theorem MT{R:List α→α→Option ρ}(h:∀p x,R p x=none):∀(l p:List α),Fh R p l=none
 |[],p=>rfl
 |x::l,p=>by rw[Fh,h];exact MT h l _
theorem HK{B:σ→Option (Lv σ ξ ρ)}{N:Nat}(l:List α)(S:List α→β)(mk:Nat→β→σ)(e:β→ξ)
  (hs:∀i x,l[i]?=some x→B (mk i (S (l.take i)))=some (.nx (mk (i+1) (S (l.take i++[x])))))
  (he:B (mk l.length (S l))=some (.ex (e (S l)))) (a:l.length<N):Av B N (mk 0 (S []))=some (.inl (e (S l))):=by
 rw[Tg l S (fun _ _=>none) mk e hs he a,MT fun _ _=>rfl]
 rfl
theorem BA{l:List α}{i:Nat}{x:α}(h:l[i]?=some x):(i:Int)<(l.length:Int):=by
 grind
theorem Bl{n:Nat}(h:n<4611686018427387904):n<At:=h
end
end Go.Eng
namespace Go.Proofs.YtpljiekkimkceaaDoor
set_option linter.all false
open Go Go.Eng
def Ok{α:Type}(Q:α→Prop)(o:Option α):Prop:=∃y,o=some y∧Q y
section
variable {α β γ σ ξ ρ:Type} {Q:β→Prop} {P:α→Prop}
theorem Ok.mono{a:β→Prop}{o:Option β}(h:Ok Q o)(k:∀y,Q y→a y):Ok a o:=by
 obtain⟨y,b,c⟩:=h
 exact⟨y,b,k y c⟩
theorem Ok.some{o:Option β}(h:Ok Q o):o.isSome=true:=by
 obtain⟨y,a,b⟩:=h
 rw[a]
 rfl
end
def LH(x:Fld):Prop:=(x.card≠5→1≤x.card∧x.card≤4∧x.key=0)∧(x.card=5→x.key=1∨x.key=2∨x.key=3∨x.key=4∨x.key=5∨x.key=7)
structure SzV (v:Val):Prop where
 t:v.text.size≤1048576
 l:v.list.length≤1048576
 p:v.pairs.length≤1048576
 s:v.slots.length≤1048576
 r:v.raws.length≤1048576
structure SzN (x:Nt):Prop where
 n:x.name.size≤1048576
 v:SzV x.val
abbrev Ea(l:List Nt):Prop:=l.length≤1048576∧∀x∈l,SzN x
structure SzF (x:Fld):Prop where
 n:x.name.size≤1048576
 t:x.type.name.size≤1048576
 u:x.union.size≤1048576
 d:SzV x.dflt
 o:Ea x.notes
structure SzM (x:Msg):Prop where
 n:x.name.size≤1048576
 fl:x.fields.length≤1048576
 f:∀y∈x.fields,SzF y
 r:x.reserved.length≤1048576
 gl:x.gone.length≤1048576
 g:∀y∈x.gone,y.size≤1048576
 o:Ea x.notes
structure SzI (x:Itm):Prop where
 n:x.name.size≤1048576
 o:Ea x.notes
structure SzE (x:Enm):Prop where
 n:x.name.size≤1048576
 il:x.items.length≤1048576
 i:∀y∈x.items,SzI y
 r:x.reserved.length≤1048576
 o:Ea x.notes
structure SzT (x:Mth):Prop where
 n:x.name.size≤1048576
 o:Ea x.notes
structure SzW (x:Svc):Prop where
 n:x.name.size≤1048576
 ml:x.methods.length≤1048576
 m:∀y∈x.methods,SzT y
 o:Ea x.notes
structure SzS (x:Scm):Prop where
 ml:x.messages.length≤1048576
 m:∀y∈x.messages,SzM y
 el:x.enums.length≤1048576
 e:∀y∈x.enums,SzE y
 wl:x.services.length≤1048576
 w:∀y∈x.services,SzW y
theorem Qp{v:Val}(h:As (B8 v)≤1048576):SzV v:=by
 have a:=BN (e:=B9) v.list
 have b:=BN (e:=CN) v.pairs
 have c:=BN (e:=CJ) v.slots
 have d:=BN (e:=Dz) v.raws
 simp only[B8,As,bk]at h
 constructor<;>omega
theorem WD{x:Nt}(h:As (AE x)≤1048576):SzN x:=by
 have e:As (AE x)=x.name.size+As (B8 x.val):=by simp only[AE,B8,As,bk]
 exact⟨by omega,Qp (by omega)⟩
theorem FP{l:List Nt}(h:CM (l.map AE)≤1048576):Ea l:=⟨by have:=BN (e:=AE) l;omega,fun x a=>WD (by have:=Dq (e:=AE) a;omega)⟩
theorem WA{x:Fld}(h:As (AM x)≤1048576):SzF x:=by
 have e:x.name.size+x.type.name.size+x.union.size+As (B8 x.dflt)+CM (x.notes.map AE)≤As (AM x):=by
  simp only[AM,B8,As,bk]
  omega
 exact⟨by omega,by omega,by omega,Qp (by omega),FP (by omega)⟩
theorem WC{x:Msg}(h:As (Am x)≤1048576):SzM x:=by
 simp only[Am,As,bk]at h
 have a:=BN (e:=AM) x.fields
 have b:=BN (e:=BL) x.reserved
 have c:=BN (e:=Ar) x.gone
 exact⟨by omega,by omega,fun y hy=>WA (by have:=Dq (e:=AM) hy;omega),by omega,by omega,fun y hy=>by have:=Dq (e:=Ar) hy;simp only[Ar,As,bk]at this;omega,FP (by omega)⟩
theorem WB{x:Itm}(h:As (Eb x)≤1048576):SzI x:=by
 simp only[Eb,As,bk]at h
 exact⟨by omega,FP (by omega)⟩
theorem Wz{x:Enm}(h:As (Ay x)≤1048576):SzE x:=by
 simp only[Ay,As,bk]at h
 have a:=BN (e:=Eb) x.items
 have b:=BN (e:=BL) x.reserved
 exact⟨by omega,by omega,fun y hy=>WB (by have:=Dq (e:=Eb) hy;omega),by omega,FP (by omega)⟩
theorem WF{x:Mth}(h:As (D5 x)≤1048576):SzT x:=by
 simp only[D5,As,bk]at h
 exact⟨by omega,FP (by omega)⟩
theorem WG{x:Svc}(h:As (Aw x)≤1048576):SzW x:=by
 simp only[Aw,As,bk]at h
 have a:=BN (e:=D5) x.methods
 exact⟨by omega,by omega,fun y hy=>WF (by have:=Dq (e:=D5) hy;omega),FP (by omega)⟩
theorem WE{x:Scm}(h:As (Bi x)≤1048576):SzS x:=by
 simp only[Bi,As,bk]at h
 have a:=BN (e:=Am) x.messages
 have b:=BN (e:=Ay) x.enums
 have c:=BN (e:=Aw) x.services
 exact⟨by omega,fun y hy=>WC (by have:=Dq (e:=Am) hy;omega),by omega,fun y hy=>Wz (by have:=Dq (e:=Ay) hy;omega),by omega,fun y hy=>WG (by have:=Dq (e:=Aw) hy;omega)⟩
def QC(v:Val):Prop:=v.list=[]∧v.pairs=[]∧v.slots=[]∧v.raws=[]∧(v.kind=7∨v.kind=8→v.bits=0)∧(¬(v.kind=7∨v.kind=8)→v.text=⟨#[]⟩)
def Qv(n:Int)(v:Val):Prop:=1≤n∧n≤9∧v.kind=n∧QC v
def Mf(s:Scm)(f:Fld):Prop:=(f.type.kind=9→∃m∈s.enums,m.name=f.type.name)∧(f.type.kind=10→(∃m∈s.messages,m.name=f.type.name)∧f.card≠3)∧1≤f.type.kind∧f.type.kind≤10
def Mg(f:Fld):Prop:=f.union≠⟨#[]⟩→f.card=2
def LI(f:Fld):Prop:=f.hasDefault=true→Qv f.type.kind f.dflt∧f.card=2∧f.union=⟨#[]⟩
def Qg(l:List Fld)(n:Nat):Prop:=∀(i:Nat) (a b:Fld),i+1<n→l[i]?=some a→l[i+1]?=some b→a.num<b.num
structure GdM0 (s:Scm) (m:Msg):Prop where
 asc:Qg m.fields m.fields.length
 df:∀(j:Nat) (f:Fld),m.fields[j]?=some f→LI f∧LH f∧Mf s f∧Mg f
def Qu(e:Enm):Prop:=∃x,e.items[0]?=some x∧x.num=0
structure GdM (s:Scm) (m:Msg):Prop where
 asc:Qg m.fields m.fields.length
 df:∀(j:Nat) (f:Fld),m.fields[j]?=some f→LI f∧LH f∧Mf s f∧Mg f
 en:∀(j:Nat) (e:Enm),s.enums[j]?=some e→Qu e
structure Few (s:Scm):Prop where
 m:s.messages.length≤150
 e:s.enums.length≤150
 w:s.services.length≤150
theorem Kx{α:Type}(p:α→Bool):∀l:List α,l.find? p=(l.findIdx? p).bind fun i=>l[i]?
 |[]=>rfl
 |x::l=>by
  rw[List.find?_cons,List.findIdx?_cons]
  cases h:p x with
  |true=>simp
  |false=>
   rw[Kx p l]
   cases List.findIdx? p l<;>simp
def C2{α:Type}[Inhabited α](l:List α)(z:α)(p:α→Bool):α×Bool:=(l.find? p).elim (z,false) fun x=>(x,true)
theorem Fa{α:Type}[Inhabited α](l:List α)(z:α)(p:α→Bool):C2 l z p=match l.findIdx? p with|some i=>(l.getD i default,true)|none=>(z,false):=by
 unfold C2
 rw[Kx]
 cases h:l.findIdx? p with
 |none=>rfl
 |some i=>
  have:=(Mk.1 h).1
  simp[this]
def zM:Msg:=.mk ⟨#[]⟩ [] [] [] []
theorem Ww(s:Scm)(n:ByteArray)(h:s.messages.length≤1048576):HF s n=some (C2 s.messages zM fun m=>decide (m.name=n)):=by
 have c:=EY (B:=G4 s n) (N:=At) s.messages (fun m=>decide (m.name=n)) (fun i=>(s.messages.getD i default,true)) () (fun i x a=>by
  have g1:=BA a
  have d:=(Yg.1 a).1
  have b:i+1<9223372036854775808:=by omega
  dsimp only[G4,br,ix,vz,wg,vs,Ap,ln,Aj,wa,Ag,br]
  simp only[g1,b,a,EO,CA,YN,Yz,YM]
  cases decide (x.name=n)<;>simp) (by simp[G4,br,ix,vz,wg,vs,Ap,ln,Aj,wa,Ag,br]) (Bl (by omega))
 dsimp only[HF,wg,lr,lc]
 rw[c,Fa]
 cases s.messages.findIdx? fun m=>decide (m.name=n)<;>rfl
theorem Wx(l:List Msg)(n:ByteArray)(h:l.length≤1048576):HE l (fun z=>EV z n)=some (C2 l zM fun m=>decide (m.name=n)):=by
 have c:=EY (B:=GR l fun z=>EV z n) (N:=At) l (fun m=>decide (m.name=n)) (fun i=>(l.getD i default,true)) () (fun i x a=>by
  have g1:=BA a
  have d:=(Yg.1 a).1
  have b:i+1<9223372036854775808:=by omega
  have e:EV x n=some (decide (x.name=n)):=rfl
  dsimp only[GR,br,ix,wg,vs,Ap,ln,Aj,cf,wa,br]
  simp only[g1,b,a,e,EO,CA,YN,Yz,YM]
  cases decide (x.name=n)<;>simp) (by simp[GR,br,ix,wg,vs,Ap,ln,Aj,cf,wa,br]) (Bl (by omega))
 dsimp only[HE,vz,wg,lr,lc,Ag]
 rw[c,Fa]
 cases l.findIdx? fun m=>decide (m.name=n)<;>rfl
def zE:Enm:=.mk ⟨#[]⟩ false [] [] []
def zW:Svc:=.mk ⟨#[]⟩ [] []
def I1(s:Scm)(n:ByteArray):Msg×Bool:=C2 s.messages zM fun m=>decide (m.name=n)
def FU(s:Scm)(n:ByteArray):Enm×Bool:=C2 s.enums zE fun m=>decide (m.name=n)
def F2(s:Scm)(n:ByteArray):Svc×Bool:=C2 s.services zW fun m=>decide (m.name=n)
theorem Vj(s:Scm)(n:ByteArray)(h:s.messages.length≤1048576):JY s n=some (I1 s n):=by
 dsimp only[JY,wg,lr,cs]
 rw[Wx _ _ h]
 rfl
theorem U5(s:Scm)(n:ByteArray)(h:s.enums.length≤1048576):Ka s n=some (FU s n):=by
 have c:=EY (B:=GV s.enums fun z=>Gi z n) (N:=At) s.enums (fun e=>decide (e.name=n)) (fun i=>(s.enums.getD i default,true)) () (fun i x a=>by
  have g1:=BA a
  have d:=(Yg.1 a).1
  have b:i+1<9223372036854775808:=by omega
  have e:Gi x n=some (decide (x.name=n)):=rfl
  dsimp only[GV,br,ix,wg,vs,Ap,ln,Aj,cf,wa,br]
  simp only[g1,b,a,e,EO,CA,YN,Yz,YM]
  cases decide (x.name=n)<;>simp) (by simp[GV,br,ix,wg,vs,Ap,ln,Aj,cf,wa,br]) (Bl (by omega))
 dsimp only[Ka,wg,lr,cs,JH,vz,wg,lr,lc,Ag]
 rw[c]
 unfold FU
 rw[Fa]
 cases s.enums.findIdx? fun m=>decide (m.name=n)<;>rfl
theorem Vg(s:Scm)(n:ByteArray)(h:s.enums.length≤1048576):JK s n=some (FU s n):=by
 have c:=EY (B:=GZ s n) (N:=At) s.enums (fun e=>decide (e.name=n)) (fun i=>(s.enums.getD i default,true)) () (fun i x a=>by
  have g1:=BA a
  have d:=(Yg.1 a).1
  have b:i+1<9223372036854775808:=by omega
  dsimp only[GZ,br,ix,vz,wg,vs,Ap,ln,Aj,wa,Ag,br]
  simp only[g1,b,a,EO,CA,YN,Yz,YM]
  cases decide (x.name=n)<;>simp) (by simp[GZ,br,ix,vz,wg,vs,Ap,ln,Aj,wa,Ag,br]) (Bl (by omega))
 dsimp only[JK,wg,lr,lc]
 rw[c]
 unfold FU
 rw[Fa]
 cases s.enums.findIdx? fun m=>decide (m.name=n)<;>rfl
theorem UO(s:Scm)(n:ByteArray)(h:s.services.length≤1048576):J1 s n=some (F2 s n):=by
 have c:=EY (B:=GM s.services fun z=>Gj z n) (N:=At) s.services (fun e=>decide (e.name=n)) (fun i=>(s.services.getD i default,true)) () (fun i x a=>by
  have g1:=BA a
  have d:=(Yg.1 a).1
  have b:i+1<9223372036854775808:=by omega
  have e:Gj x n=some (decide (x.name=n)):=rfl
  dsimp only[GM,br,ix,wg,vs,Ap,ln,Aj,cf,wa,br]
  simp only[g1,b,a,e,EO,CA,YN,Yz,YM]
  cases decide (x.name=n)<;>simp) (by simp[GM,br,ix,wg,vs,Ap,ln,Aj,cf,wa,br]) (Bl (by omega))
 dsimp only[J1,wg,lr,cs,JN,vz,wg,lr,lc,Ag]
 rw[c]
 unfold F2
 rw[Fa]
 cases s.services.findIdx? fun m=>decide (m.name=n)<;>rfl
theorem Vi(s:Scm)(n:ByteArray)(h:s.services.length≤1048576):JI s n=some (F2 s n):=by
 have c:=EY (B:=G9 s n) (N:=At) s.services (fun e=>decide (e.name=n)) (fun i=>(s.services.getD i default,true)) () (fun i x a=>by
  have g1:=BA a
  have d:=(Yg.1 a).1
  have b:i+1<9223372036854775808:=by omega
  dsimp only[G9,br,ix,vz,wg,vs,Ap,ln,Aj,wa,Ag,br]
  simp only[g1,b,a,EO,CA,YN,Yz,YM]
  cases decide (x.name=n)<;>simp) (by simp[G9,br,ix,vz,wg,vs,Ap,ln,Aj,wa,Ag,br]) (Bl (by omega))
 dsimp only[JI,wg,lr,lc]
 rw[c]
 unfold F2
 rw[Fa]
 cases s.services.findIdx? fun m=>decide (m.name=n)<;>rfl
theorem CU{α ξ ρ:Type}{B:Nat→Option (Lv Nat ξ ρ)}{N:Nat}(l:List α)(e:ξ)(hs:∀i x,l[i]?=some x→B i=some (.nx (i+1)))(he:B l.length=some (.ex e))(c:l.length<N):Av B N 0=some (.inl e):=by
 suffices H:∀k i N:Nat,i+k=l.length→k<N→Av B N i=some (.inl e)from H l.length 0 N (by omega) c
 intro k
 induction k with
 |zero=>
  intro i N a b
  obtain⟨N,rfl⟩:∃m,N=m+1:=⟨N-1,by omega⟩
  rw[Av,show i=l.length by omega,he]
 |succ k d=>
  intro i N a b
  obtain⟨N,rfl⟩:∃m,N=m+1:=⟨N-1,by omega⟩
  rw[Av,hs i _ (Yb (by omega))]
  exact d (i+1) N (by omega) (by omega)
theorem OO(l:List Spn)(h:l.length≤1048576):JT l l=some true:=by
 have w:l.length<4611686018427387904:=by omega
 have q:=CU (B:=GQ l l) (N:=At) l () (fun i x a=>by
  have g1:=BA a
  have b:i+1<9223372036854775808:=by have:=(Yg.1 a).1;omega
  dsimp only[GQ,br,ix,vz,vs,Ap,ln,Aj,wa,Ag,br]
  simp[w,g1,b,a]) (by dsimp only[GQ,br,ix,vz,vs,Ap,ln,Aj,wa,Ag,br];simp[w]) (Bl (by omega))
 dsimp only[JT,br,vz,lr,lc,Ag,br]
 simp[w,q]
theorem Fi(l:List Nt)(h:l.length≤1048576):JL l l=some true:=by
 have w:l.length<4611686018427387904:=by omega
 have q:=CU (B:=GO l l) (N:=At) l () (fun i x a=>by
  have g1:=BA a
  have b:i+1<9223372036854775808:=by have:=(Yg.1 a).1;omega
  have g4:l.getD i Rw.z=x:=by rw[Yz,a];rfl
  have c:(0:Int)≤i∧(i:Int)<l.length:=⟨by omega,g1⟩
  dsimp only[GO,br,ix,Bo,vz,vs,Ap,ln,Aj,wa,Ag,br]
  simp[w,g1,b,g4,c,a]) (by dsimp only[GO,br,ix,Bo,vz,vs,Ap,ln,Aj,wa,Ag,br];simp[w]) (Bl (by omega))
 dsimp only[JL,br,vz,lr,lc,Ag,br]
 simp[w,q]
theorem Vv(f:Fld)(h:f.notes.length≤1048576):JS f f=some true:=by
 have e:=Fi f.notes h
 dsimp only[JS,br,wg,lr,A4,br]
 simp[e]
theorem U6(m:Msg)(h:SzM m):JR [m] [m]=some true:=by
 have d:m.fields.length<4611686018427387904:=by have:=h.fl;omega
 have f:m.gone.length<4611686018427387904:=by have:=h.gl;omega
 have g:=OO m.reserved h.r
 have j:=Fi m.notes h.o.1
 have l:=fun c:Nat=>CU (B:=GF [m] [m] c m m) (N:=At) m.fields () (fun i x a=>by
  have g1:=BA a
  have b:i+1<9223372036854775808:=by have:=(Yg.1 a).1;have:=h.fl;omega
  have e:=Vv x (h.f x (Yp a)).o.1
  dsimp only[GF,br,ix,vz,wg,vs,Ap,ln,Aj,cl,wa,Ag,br]
  simp[d,g1,b,a,e]) (by dsimp only[GF,br,ix,vz,wg,vs,Ap,ln,Aj,cl,wa,Ag,br];simp[d]) (Bl (by have:=h.fl;omega))
 have n:=fun c:Nat=>CU (B:=GU [m] [m] c m m) (N:=At) m.gone () (fun i x a=>by
  have g1:=BA a
  have b:i+1<9223372036854775808:=by have:=(Yg.1 a).1;have:=h.gl;omega
  dsimp only[GU,br,ix,vz,wg,vs,Ap,ln,Aj,wa,Ag,br]
  simp[f,g1,b,a]) (by dsimp only[GU,br,ix,vz,wg,vs,Ap,ln,Aj,wa,Ag,br];simp[f]) (Bl (by have:=h.gl;omega))
 have k:=CU (B:=GP [m] [m]) (N:=At) [m] () (fun i x a=>by
  have hi:i=0:=by have:=(Yg.1 a).1;simp at this;exact this
  subst hi
  obtain rfl:m=x:=by simpa using a
  dsimp only[GP,br,ix,vz,vy,wg,vs,Ap,ln,Aj,lc,A4,wa,Ag,br]
  simp[d,f,g,j,l,n]) (by dsimp only[GP,br,ix,vz,vy,wg,vs,Ap,ln,Aj,lc,A4,wa,Ag,br];simp) (Bl (by simp))
 dsimp only[JR,br,vz,lr,lc,Ag,br]
 simp[k]
theorem Vt(m:Enm)(h:SzE m):JU [m] [m]=some true:=by
 have b:m.items.length<4611686018427387904:=by have:=h.il;omega
 have c:=OO m.reserved h.r
 have d:=Fi m.notes h.o.1
 have k:=fun l:Nat=>CU (B:=GJ [m] [m] l m m) (N:=At) m.items () (fun i x a=>by
  have g1:=BA a
  have f:i+1<9223372036854775808:=by have:=(Yg.1 a).1;have:=h.il;omega
  have g4:m.items.getD i Rw.z=x:=by rw[Yz,a];rfl
  have g:(0:Int)≤i∧(i:Int)<m.items.length:=⟨by omega,g1⟩
  have e:=Fi x.notes (h.i x (Yp a)).o.1
  dsimp only[GJ,br,ix,Bo,vz,wg,vs,Ap,ln,Aj,A4,wa,Ag,br]
  simp[b,g1,f,g4,g,a,e]) (by dsimp only[GJ,br,ix,Bo,vz,wg,vs,Ap,ln,Aj,A4,wa,Ag,br];simp[b]) (Bl (by have:=h.il;omega))
 have j:=CU (B:=GT [m] [m]) (N:=At) [m] () (fun i x a=>by
  have hi:i=0:=by have:=(Yg.1 a).1;simp at this;exact this
  subst hi
  obtain rfl:m=x:=by simpa using a
  dsimp only[GT,br,ix,vz,vy,wg,vs,Ap,ln,Aj,lc,A4,wa,Ag,br]
  simp[b,c,d,k]) (by dsimp only[GT,br,ix,vz,vy,wg,vs,Ap,ln,Aj,lc,A4,wa,Ag,br];simp) (Bl (by simp))
 dsimp only[JU,br,vz,lr,lc,Ag,br]
 simp[j]
theorem UQ(m:Svc)(h:SzW m):JQ [m] [m]=some true:=by
 have b:m.methods.length<4611686018427387904:=by have:=h.ml;omega
 have c:=Fi m.notes h.o.1
 have g:=fun j:Nat=>CU (B:=GL [m] [m] j m m) (N:=At) m.methods () (fun i x a=>by
  have g1:=BA a
  have d:i+1<9223372036854775808:=by have:=(Yg.1 a).1;have:=h.ml;omega
  have e:=Fi x.notes (h.m x (Yp a)).o.1
  dsimp only[GL,br,ix,vz,wg,vs,Ap,ln,Aj,A4,wa,Ag,br]
  simp[b,g1,d,a,e]) (by dsimp only[GL,br,ix,vz,wg,vs,Ap,ln,Aj,A4,wa,Ag,br];simp[b]) (Bl (by have:=h.ml;omega))
 have f:=CU (B:=GK [m] [m]) (N:=At) [m] () (fun i x a=>by
  have hi:i=0:=by have:=(Yg.1 a).1;simp at this;exact this
  subst hi
  obtain rfl:m=x:=by simpa using a
  dsimp only[GK,br,ix,vz,vy,wg,vs,Ap,ln,Aj,lc,A4,wa,Ag,br]
  simp[b,c,g]) (by dsimp only[GK,br,ix,vz,vy,wg,vs,Ap,ln,Aj,lc,A4,wa,Ag,br];simp) (Bl (by simp))
 dsimp only[JQ,br,vz,lr,lc,Ag,br]
 simp[f]
def DF(y s:ByteArray):Bool:=!(Bj y s||decide (y=s))
theorem TM{a b:ByteArray}(h:AO a=AO b):a=b:=by
 unfold AO at h
 exact ByteArray.ext (YS h)
theorem OM(a b:ByteArray):Bj a b=decide (AO a<AO b):=by
 unfold Bj
 rw[Go.Proofs.bytesLess_eq]
 unfold AO
 rw[ByteArray.toList_eq,ByteArray.toList_eq]
theorem Pp{y s:ByteArray}(h:DF y s=true):AO s≤AO y:=by
 unfold DF at h
 rw[Y4,HA,OM,Mj]at h
 exact List.not_lt.1 h.1
theorem VJ{y s:ByteArray}(h:DF y s=false):AO y≤AO s:=by
 unfold DF at h
 rw[Bool.not_eq_false',YE,OM,Ga,Ga]at h
 rcases h with h|h
 ·exact List.le_of_lt h
 ·rw[h];exact List.le_refl _
def AU:List ByteArray→ByteArray→List ByteArray
 |[],s=>[s]
 |y::l,s=>if DF y s=true then s::y::l else y::AU l s
abbrev GW(l:List ByteArray):Prop:=l.Pairwise fun x y=>AO x≤AO y
theorem Km:∀(l:List ByteArray) (s:ByteArray),(AU l s).Perm (s::l)
 |[],s=>JA _
 |y::l,s=>by
  unfold AU
  split
  ·exact JA _
  ·exact((Km l s).cons y).trans (List.Perm.swap s y l)
theorem NC:∀{l:List ByteArray} {s:ByteArray},GW l→GW (AU l s)
 |[],s,_=>List.pairwise_singleton _ _
 |y::l,s,h=>by
  obtain⟨b,d⟩:=Ju.1 h
  unfold AU
  split
  ·rename_i c
   refine Ju.2 ⟨fun z a=>?_,h⟩
   rcases YG.1 a with rfl|a
   ·exact Pp c
   ·exact List.le_trans (Pp c) (b z a)
  ·rename_i c
   have c:=VJ (Bool.eq_false_iff.2 c)
   refine Ju.2 ⟨fun z a=>?_,NC d⟩
   rcases YG.1 ((Km l s).mem_iff.1 a)with rfl|a
   ·exact c
   ·exact b z a
theorem NH:∀(l out:List ByteArray),GW out→GW (l.foldl AU out)
 |[],out,h=>h
 |x::l,out,h=>NH l (AU out x) (NC h)
theorem Kh:∀(l out:List ByteArray),(l.foldl AU out).Perm (l++out)
 |[],out=>JA _
 |x::l,out=>(Kh l (AU out x)).trans (((List.Perm.append_left l (Km out x)).trans List.perm_middle))
theorem Gs(l out:List ByteArray):(l.foldl AU out).length=l.length+out.length:=by rw[(Kh l out).length_eq,Ys]
theorem Uh(l:List ByteArray):l.foldl AU []=CF l:=by
 have d:GW (CF l):=(List.pairwise_mergeSort (le:=fun x y:ByteArray=>decide (AO x≤AO y)) (fun a b c d e=>by simp only[Ga]at*;exact List.le_trans d e) (fun a b=>by simp only[YE,Ga];exact List.le_total _ _) l).imp fun h=>Jc h
 have e:(CF l).Perm l:=List.mergeSort_perm _ _
 have f:=Kh l []
 rw[Je]at f
 exact List.Perm.eq_of_pairwise (le:=fun x y=>AO x≤AO y) (fun a b _ _ h k=>TM (List.le_antisymm h k)) (NH l [] List.Pairwise.nil) d (f.trans e.symm)
def A5(s:ByteArray)(b:List ByteArray×Bool)(y:ByteArray):List ByteArray×Bool:=if(!b.2&&DF y s)=true then(b.1++[s]++[y],true)else(b.1++[y],b.2)
theorem Ib(s:ByteArray):∀(l:List ByteArray) (b:List ByteArray×Bool),(l.foldl (A5 s) b).1.length+(if b.2=true then 1 else 0)=b.1.length+l.length+(if(l.foldl (A5 s) b).2=true then 1 else 0)
 |[],b=>by obtain⟨r,d⟩:=b;cases d<;>simp
 |y::l,b=>by
  have h:=Ib s l (A5 s b y)
  rw[Gf,YQ]
  generalize l.foldl (A5 s) (A5 s b y)=z at h⊢
  unfold A5 at h
  obtain⟨r,d⟩:=b
  cases d with
  |true=>simp at h⊢;omega
  |false=>
   cases a:DF y s with
   |true=>rw[a]at h;simp at h⊢;omega
   |false=>rw[a]at h;simp at h⊢;omega
theorem O1(s:ByteArray):∀(l r:List ByteArray),l.foldl (A5 s) (r,true)=(r++l,true)
 |[],r=>by simp
 |y::l,r=>by
  have:A5 s (r,true) y=(r++[y],true):=by unfold A5;simp
  rw[Gf,this,O1 s l]
  simp
theorem Pe(s:ByteArray):∀(l r:List ByteArray),(if(l.foldl (A5 s) (r,false)).2=true then(l.foldl (A5 s) (r,false)).1 else(l.foldl (A5 s) (r,false)).1++[s])=r++AU l s
 |[],r=>by simp[AU]
 |y::l,r=>by
  rw[Gf]
  unfold AU
  by_cases c:DF y s=true
  ·have:A5 s (r,false) y=(r++[s]++[y],true):=by unfold A5;simp[c]
   rw[this,O1,Yt c]
   simp
  ·have:A5 s (r,false) y=(r++[y],false):=by unfold A5;simp[c]
   rw[this,Pe s l,Yy c]
   simp
theorem Le(l:List ByteArray)(s:ByteArray)(h:l.length≤4194304):JJ l s=some (AU l s):=by
 have w:l.length<4611686018427387904:=by omega
 have q:=HK (B:=Fp l s) (N:=At) (ρ:=List ByteArray) l (fun p=>p.foldl (A5 s) ([],false)) (fun i b=>(b.1,b.2,i)) (fun b=>(b.2,b.1)) (fun i y hy=>by
  have g1:=BA hy
  have hi:=(Yg.1 hy).1
  have j:i+1<9223372036854775808:=by omega
  have g4:l.getD i Rw.z=y:=by rw[Yz,hy];rfl
  have k:(0:Int)≤i∧(i:Int)<l.length:=⟨by omega,g1⟩
  have a:=Ib s (l.take i) ([],false)
  rw[YR]at a
  rw[ES,Gf,List.foldl_nil]
  generalize (l.take i).foldl (A5 s) ([],false)=b at a⊢
  obtain⟨r,d⟩:=b
  have a1:r.length≤i+1:=by
   simp at a
   split at a<;>omega
  have g:r.length<549755813887:=by omega
  have a3:r.length+1<549755813887:=by omega
  have a4:r.length+1<549755813888:=by omega
  have a5:r.length+1+1<549755813888:=by omega
  have f:r.length<549755813888:=by omega
  dsimp only[Fp,br,ix,Bo,vz,vw,vs,v2,ln,Aj,ap,wa,fl,Ag,br]
  unfold A5 DF
  cases d with
  |true=>simp[w,g1,j,g4,k,hy,g,a3,a4,a5,f]
  |false=>
   cases c:(Bj y s||decide (y=s))with
   |true=>
    rw[YE,Ga]at c
    rcases c with c|c<;>simp[w,g1,j,g4,k,hy,g,a3,a4,a5,f,c]
   |false=>
    rw[HA,Mj]at c
    simp[w,g1,j,g4,k,hy,g,a3,a4,a5,f,c.1,c.2]) (by
  have a:=Ib s l ([],false)
  generalize l.foldl (A5 s) ([],false)=b at a⊢
  obtain⟨r,d⟩:=b
  have a1:r.length≤l.length+1:=by
   simp at a
   split at a<;>omega
  have f:r.length<549755813888:=by omega
  dsimp only[Fp,br,ix,Bo,vz,vw,vs,v2,ln,Aj,ap,wa,fl,Ag,br]
  simp[w,f]) (Bl (by omega))
 have q:Av (Fp l s) At ([],false,0)=some (.inl ((l.foldl (A5 s) ([],false)).2,(l.foldl (A5 s) ([],false)).1)):=q
 have e:=Pe s l []
 have a:=Ib s l ([],false)
 rw[Y6]at e
 generalize l.foldl (A5 s) ([],false)=b at q e a
 obtain⟨r,d⟩:=b
 have a1:r.length≤l.length+1:=by
  simp at a
  split at a<;>omega
 have g:r.length<549755813887:=by omega
 have a4:r.length+1<549755813888:=by omega
 have f:r.length<549755813888:=by omega
 dsimp only[JJ,br,vz,vw,lr,lc,ap,fl,fr,br]
 rw[←e]
 cases d<;>simp[q,g,a4,f]
theorem TK{s:Scm}(h:SzS s):JM s=some (BI s):=by
 have w:=h.el
 have x:=h.ml
 have A:=h.wl
 have t:s.enums.length<4611686018427387904:=by omega
 have u:s.messages.length<4611686018427387904:=by omega
 have v:s.services.length<4611686018427387904:=by omega
 have j:=HK (B:=Fk s) (N:=At) (ρ:=List ByteArray) s.enums (fun p=>(p.map fun z:Enm=>(⟨#[101,32]⟩:ByteArray)++z.name).foldl AU []) (fun i b=>(b,i)) id (fun i y hy=>by
  have g1:=BA hy
  have hi:=(Yg.1 hy).1
  have f:i+1<9223372036854775808:=by omega
  have o:y.name.size≤1048576:=(h.e y (Yp hy)).n
  have hl:=Gs ((s.enums.take i).map fun z:Enm=>(⟨#[101,32]⟩:ByteArray)++z.name) []
  rw[Ym,YR]at hl
  rw[YY,ES]
  generalize ((s.enums.take i).map fun z:Enm=>(⟨#[101,32]⟩:ByteArray)++z.name).foldl AU []=r at hl⊢
  have e:=Le r ((⟨#[101,32]⟩:ByteArray)++y.name) (by simp at hl;omega)
  have hs:(⟨#[101,32]⟩:ByteArray).size=2:=rfl
  have a:2+y.name.size≤9223372036854775807:=by omega
  dsimp only[Fk,br,ix,vz,wg,vs,v2,ln,Aj,ad,cl,wa,Ag,br]
  simp[t,g1,f,hy,e,hs,a]) (by dsimp only[Fk,br,ix,vz,wg,vs,v2,ln,Aj,ad,cl,wa,Ag,br];simp[t]) (Bl (by omega))
 have j:Av (Fk s) At ([],0)=some (.inl ((s.enums.map fun z:Enm=>(⟨#[101,32]⟩:ByteArray)++z.name).foldl AU [])):=j
 have g:=Gs (s.enums.map fun z:Enm=>(⟨#[101,32]⟩:ByteArray)++z.name) []
 rw[Ym]at g
 generalize l:(s.enums.map fun z:Enm=>(⟨#[101,32]⟩:ByteArray)++z.name).foldl AU []=c at j g
 have k:=HK (B:=Fl s) (N:=At) (ρ:=List ByteArray) s.messages (fun p=>(p.map fun z:Msg=>(⟨#[109,32]⟩:ByteArray)++z.name).foldl AU c) (fun i b=>(b,i)) id (fun i y hy=>by
  have g1:=BA hy
  have hi:=(Yg.1 hy).1
  have f:i+1<9223372036854775808:=by omega
  have o:y.name.size≤1048576:=(h.m y (Yp hy)).n
  have hl:=Gs ((s.messages.take i).map fun z:Msg=>(⟨#[109,32]⟩:ByteArray)++z.name) c
  rw[Ym,YR]at hl
  rw[YY,ES]
  generalize ((s.messages.take i).map fun z:Msg=>(⟨#[109,32]⟩:ByteArray)++z.name).foldl AU c=r at hl⊢
  have e:=Le r ((⟨#[109,32]⟩:ByteArray)++y.name) (by simp at g;omega)
  have hs:(⟨#[109,32]⟩:ByteArray).size=2:=rfl
  have a:2+y.name.size≤9223372036854775807:=by omega
  dsimp only[Fl,br,ix,vz,wg,vs,ln,Aj,ad,cl,wa,Ag,br]
  simp[u,g1,f,hy,e,hs,a]) (by dsimp only[Fl,br,ix,vz,wg,vs,ln,Aj,ad,cl,wa,Ag,br];simp[u]) (Bl (by omega))
 have k:Av (Fl s) At (c,0)=some (.inl ((s.messages.map fun z:Msg=>(⟨#[109,32]⟩:ByteArray)++z.name).foldl AU c)):=k
 have q:=Gs (s.messages.map fun z:Msg=>(⟨#[109,32]⟩:ByteArray)++z.name) c
 rw[Ym]at q
 generalize m:(s.messages.map fun z:Msg=>(⟨#[109,32]⟩:ByteArray)++z.name).foldl AU c=d at k q
 have n:=HK (B:=Fm s) (N:=At) (ρ:=List ByteArray) s.services (fun p=>(p.map fun z:Svc=>(⟨#[115,32]⟩:ByteArray)++z.name).foldl AU d) (fun i b=>(b,i)) id (fun i y hy=>by
  have g1:=BA hy
  have hi:=(Yg.1 hy).1
  have f:i+1<9223372036854775808:=by omega
  have o:y.name.size≤1048576:=(h.w y (Yp hy)).n
  have hl:=Gs ((s.services.take i).map fun z:Svc=>(⟨#[115,32]⟩:ByteArray)++z.name) d
  rw[Ym,YR]at hl
  rw[YY,ES]
  generalize ((s.services.take i).map fun z:Svc=>(⟨#[115,32]⟩:ByteArray)++z.name).foldl AU d=r at hl⊢
  have e:=Le r ((⟨#[115,32]⟩:ByteArray)++y.name) (by simp at g;omega)
  have hs:(⟨#[115,32]⟩:ByteArray).size=2:=rfl
  have a:2+y.name.size≤9223372036854775807:=by omega
  dsimp only[Fm,br,ix,vz,wg,vs,ln,Aj,ad,cl,wa,Ag,br]
  simp[v,g1,f,hy,e,hs,a]) (by dsimp only[Fm,br,ix,vz,wg,vs,ln,Aj,ad,cl,wa,Ag,br];simp[v]) (Bl (by omega))
 have n:Av (Fm s) At (d,0)=some (.inl ((s.services.map fun z:Svc=>(⟨#[115,32]⟩:ByteArray)++z.name).foldl AU d)):=n
 have e:BI s=(s.services.map fun z:Svc=>(⟨#[115,32]⟩:ByteArray)++z.name).foldl AU d:=by
  unfold BI Bm
  rw[←Uh,ES,ES,CS,CS,CS,←m,←l]
  rfl
 dsimp only[JM,vz,vw,lr,lc,fz]
 rw[e]
 simp[j,k,n]
theorem T6{s:Scm}(h:SzS s):Gq s=some (BI s):=by
 unfold Gq
 refine Yt ⟨⟨h.el,h.ml,h.wl⟩,fun z b=>?_,fun z b=>?_,fun z b=>?_⟩
 ·obtain⟨x,a,rfl⟩:=YD.1 b;exact(h.e x a).n
 ·obtain⟨x,a,rfl⟩:=YD.1 b;exact(h.m x a).n
 ·obtain⟨x,a,rfl⟩:=YD.1 b;exact(h.w x a).n
theorem UE{s:Scm}(h:SzS s):(BI s).length≤3145728:=by
 have:=h.el
 have:=h.ml
 have:=h.wl
 unfold BI Bm
 rw[EZ]
 simp
 omega
theorem K3{α:Type}[Inhabited α](l:List α)(z:α)(p:α→Bool):(C2 l z p).1=z∨(C2 l z p).1∈l:=by
 unfold C2
 cases e:l.find? p with
 |none=>exact .inl rfl
 |some x=>exact .inr (List.mem_of_find?_eq_some e)
theorem Wi:Mr=some true:=by kernel_rfl
theorem Lk:Ea []:=⟨by simp,fun x a=>by cases a⟩
theorem R9{s:Scm}{n:ByteArray}(hs:As (Bi s)≤1048576)(_:(0:Nat)≤1):JV s n=some true:=by
 have h:=WE hs
 have d:=Vj s n h.ml
 have f:HF s n=some (I1 s n):=Ww s n h.ml
 have g:=U5 s n h.el
 have j:=Vg s n h.el
 have k:=UO s n h.wl
 have o:=Vi s n h.wl
 have s1:SzM (I1 s n).1:=by
  rcases K3 s.messages zM fun m=>decide (m.name=n)with e|e
  ·rw[show(I1 s n).1=zM from e]
   exact⟨by decide,by decide,(fun y hy=>(by cases hy)),by decide,by decide,(fun y hy=>(by cases hy)),Lk⟩
  ·exact h.m _ e
 have s2:SzE (FU s n).1:=by
  rcases K3 s.enums zE fun m=>decide (m.name=n)with e|e
  ·rw[show(FU s n).1=zE from e]
   exact⟨by decide,by decide,(fun y hy=>(by cases hy)),by decide,Lk⟩
  ·exact h.e _ e
 have r:SzW (F2 s n).1:=by
  rcases K3 s.services zW fun m=>decide (m.name=n)with e|e
  ·rw[show(F2 s n).1=zW from e]
   exact⟨by decide,by decide,(fun y hy=>(by cases hy)),Lk⟩
  ·exact h.w _ e
 have f1:=U6 _ s1
 have f2:=Vt _ s2
 have f3:=UQ _ r
 have b:=T6 h
 have c:=TK h
 have hl:=UE h
 generalize BI s=l at b c hl
 have w:l.length<4611686018427387904:=by omega
 have q:=CU (B:=G7 l l) (N:=At) l () (fun i x a=>by
  have g1:=BA a
  have p:i+1<9223372036854775808:=by have:=(Yg.1 a).1;omega
  dsimp only[G7,br,ix,vz,vs,Ap,ln,Aj,wa,Ag,br]
  simp[w,g1,p,a]) (by dsimp only[G7,br,ix,vz,vs,Ap,ln,Aj,wa,Ag,br];simp[w]) (Bl (by omega))
 dsimp only[JV,br,vz,wg,lr,lc,cl,A4,Ag,br]
 rw[d,f,g,j,k,o]
 simp[f1,f2,f3,b,c,w,q,Wi]
end Go.Proofs.YtpljiekkimkceaaDoor
