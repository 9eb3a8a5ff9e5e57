import Derived.Test.YtjbijbkdiijhaaaGreatZb08
import Derived.Test.YtjbijbkdiijhaaaGreatZb07
import Derived.Test.YtjbijbkdiijhaaaGreatRows
import Derived.WalkKit
import Derived.ProofKit
import Derived.OpenShut
import Derived.Carry
import Derived.Deep.DeepHandedRow
import Derived.Test.YtjbijbkdiijhaaaGreatZb09
import Derived.Test.YtjbijbkdiijhaaaGreatZb19
import Derived.Test.YtjbijbkdiijhaaaGreatZb00
namespace Go.Proofs.YtjbijbkdiijhaaaGreat
set_option linter.all false
open Go Go.Eng Go.ChangeShapes Go.WideShapes Go.ChangeAt Go.RowKit
theorem Zow{H:Type}(b:List UInt8):Rows.uptoBulk (DataW.lit (H:=H) (.string b))=b.length+1:=by simp only[Rows.uptoBulk]
theorem Zq6{H:Type}(a b:List (DataW H)):Rows.uptoBulk (.slice a b)=Rows.uptoBulkAll a+Rows.uptoBulkAll b+1:=by simp only[Rows.uptoBulk]
theorem ZBh{H:Type}(a:List (DataW H)):Rows.uptoBulk (.agg a)=Rows.uptoBulkAll a+1:=by simp only[Rows.uptoBulk]
def JV(W:World)(ds:List D)(cs:List Value)(o:Nat):Prop:=∀(i:Nat) (d:D),ds[i]?=some d→∃c,cs[o+i]?=some c∧RepD W (· <W.heap.size) d c
def LD(W:World)(ds:List D)(cs:List Value):Prop:=ds.length=cs.length∧JV W ds cs 0
theorem JV.app{W:World}{ds a:List D}{cs:List Value}{o:Nat}(h:JV W ds cs o)(k:JV W a cs (o+ds.length)):JV W (ds++a) cs o:=fun i d hi=>by
 rcases YF i ds.length with hl|hl
 ·rw[Yp hl]at hi;exact h i d hi
 ·rw[Yu hl]at hi
  obtain⟨c,b,e⟩:=k _ d hi
  grind
theorem JV.nil{W:World}{cs:List Value}{o:Nat}:JV W [] cs o:=fun i d h=>by simp at h
theorem LD.at{W:World}{ds:List D}{cs:List Value}{o k:Nat}(h:LD W ds ((cs.drop o).take k)):JV W ds cs o:=fun i d hi=>by
 obtain⟨c,a,b⟩:=h.2 i d hi
 grind
def rk(k:IntKind)(n:Int):Nat:=if Lit.wf (.int k n)=true then 0 else 1000000000000
theorem wG{k:IntKind}{n:Int}(h:rk k n≤1048576):k.min≤n∧n≤k.max:=by
 unfold rk at h
 split at h
 ·rename_i a
  unfold Lit.wf at a
  rw[Yb]at a
  exact⟨Y4 a.1,Y4 a.2⟩
 ·omega
mutual
def bk:D→Nat
 |.int k n=>rk k n
 |.bool _=>0
 |.str s=>s.size
 |.list a=>AU a
 |.map _ a=>AU a
def Ar:List D→Nat
 |[]=>0
 |d::l=>bk d+Ar l
def AU:List (List D)→Nat
 |[]=>0
 |e::l=>Ar e+1+AU l
end
theorem Na:∀a b:List D,Ar (a++b)=Ar a+Ar b
 |[],b=>by rw[Fy,Ar,YO]
 |d::a,b=>by rw[HO,Ar,Ar,Na a b,YK]
theorem lO(d:D):Ar [d]=bk d:=by rw[Ar,Ar,G6]
theorem CD{α:Type}{e:α→List D}:∀l:List α,l.length≤AU (l.map e)
 |[]=>CK _
 |x::l=>by have:=CD (e:=e) l;rw[YY,AU,FC];omega
theorem C8{α:Type}{e:α→List D}{x:α}:∀{l:List α},x∈l→Ar (e x)+1≤AU (l.map e)
 |y::l,h=>by
  rw[YY,AU]
  cases Yx.1 h with
  |inl h=>subst h;omega
  |inr h=>have:=C8 (e:=e) h;omega
section
variable {H:Type} (enc:TypeId×Value→H) (P:Program) (W:World)
def Cm{α:Type}(n:Nat)(t:TypeId)(e:α→List D):Prop:=
 ∀cs x,DataW.trod enc P W 0 (fun _=>true) true n t cs=some x→∃v:α,LD W (e v) cs∧Ar (e v)+1≤Rows.uptoBulk x.1
end
section
variable {H:Type} {enc:TypeId×Value→H} {P:Program} {W:World} {n:Nat} {t:TypeId}
theorem kZ(d:DataW H):1≤Rows.uptoBulk d:=by cases d<;>(try (rename_i l;cases l))<;>simp[Rows.uptoBulk]
theorem PR{d:D}{c:Value}(h:RepD W (· <W.heap.size) d c):LD W [d] [c]:=⟨rfl,fun i d' hi=>by
 cases i with
 |zero=>cases hi;exact⟨c,rfl,h⟩
 |succ i=>simp at hi⟩
theorem EJ{k:IntKind}(a:P.underlying t=some (.int k)):Cm enc P W n t (fun v:Int=>[.int k v]):=fun cs x hx=>by
 obtain⟨m,rfl,rfl,b⟩:=DataW.trod_int a hx
 refine⟨m,PR (.int _ _),?_⟩
 rw[lO,bk,rk,Ym b]
 exact kZ _
theorem Zuq(a:P.underlying t=some .bool):Cm enc P W n t (fun v:Bool=>[.bool v]):=fun cs x hx=>by
 obtain⟨m,rfl,rfl⟩:=DataW.trod_bool a hx
 exact⟨m,PR (.bool _),kZ _⟩
theorem EI(a:P.underlying t=some .string):Cm enc P W n t (fun v:ByteArray=>[.str v]):=fun cs x hx=>by
 obtain⟨m,rfl,rfl,_⟩:=DataW.trod_string a hx
 refine⟨m,PR (.str _),?_⟩
 rw[Zow,lO]
 exact Yf _
theorem rN{α:Type}{e:α→List D}:∀(l:List α) (xs:List (DataW H×List MemPlace)),l.length=xs.length→(∀(i:Nat) (v:α),l[i]?=some v→∃y:DataW H×List MemPlace,xs[i]?=some y∧Ar (e v)+1≤Rows.uptoBulk y.1)→AU (l.map e)≤Rows.uptoBulkAll (xs.map (·.1))
 |[],_,_,_=>CK _
 |x::l,[],h,_=>by cases h
 |x::l,y::xs,h,k=>by
  have:=rN l xs (aM h) (fun i v hi=>k (i+1) v hi)
  obtain⟨c,a,b⟩:=k 0 x rfl
  cases a
  rw[YY,YY,AU]
  simp only[Rows.uptoBulkAll]
  omega
theorem ZrP{α:Type}{Q:Nat→α→Prop}:∀(len:Nat),(∀i,i<len→∃v,Q i v)→∃l:List α,l.length=len∧∀i v,l[i]?=some v→Q i v
 |0,_=>⟨[],rfl,fun i v h=>by simp at h⟩
 |len+1,h=>by
  obtain⟨l,a,b⟩:=ZrP len (fun i hi=>h i (by omega))
  obtain⟨v,c⟩:=h len (by omega)
  refine⟨l++[v],by simp[a],fun i w hi=>?_⟩
  grind
theorem Dn{α:Type}{e:TypeId}{b:α→List D}{sz:Nat}(X:P.underlying t=some (.slice e))(E:P.cellsOf e=sz)(V:sz≠0)(hl:∀x,(b x).length=sz)(h:∀m,m<n→Cm enc P W m e b):
  Cm enc P W n t (fun l:List α=>[.list (l.map b)]):=fun cs x hx=>by
 rcases DataW.trod_slice X hx with⟨rfl,rfl⟩|⟨a,len,cap,g,J,m,rfl,rfl,rfl,Z,z,T,U,hi,_,_⟩
 ·exact⟨[],PR .nil,kZ _⟩
 ·have k:∀i,i<len→∃v:α,∃y f,g[i]?=some y∧W.cells? 0 (a.add (i*sz)) sz=some f∧LD W (b v) f∧Ar (b v)+1≤Rows.uptoBulk y.1:=fun i B=>by
   have I:=hi i B
   rw[Ye (by omega),E]at I
   obtain⟨f,N,O⟩:=rr.1 I
   obtain⟨v,Q,R⟩:=h m (by omega) f _ O
   exact⟨v,_,f,Ye (by omega),N,Q,R⟩
  obtain⟨l,A,r⟩:=ZrP len k
  have cell:∀(i j:Nat) (e':List D) (x:D),(l.map b)[i]?=some e'→e'[j]?=some x→∃c,W.cell? (a.add (i*sz+j))=some c∧RepD W (· <W.heap.size) x c:=fun i j e' x d o=>by
   rw[YS]at d
   cases s:l[i]? with
   |none=>rw[s]at d;cases d
   |some v=>
    rw[s]at d
    cases d
    obtain⟨y,f,p,q,F,G⟩:=r i v s
    obtain⟨c,H,K⟩:=F.2 j x o
    rw[YO]at H
    obtain⟨_,Y,L⟩:=World.cells?_some q
    have u:j<sz:=by
     rw[←hl v]
     rcases YF j (b v).length with h|h
     ·exact h
     ·rw[YM h]at o;cases o
    refine⟨c,?_,K⟩
    rw[←Go.Eng.add_add,L j u,H]
  refine⟨l,PR ?_,?_⟩
  ·have hlen:(l.map b).length=len:=by simp[A]
   have:=RepD.list (w:=W) (S:=(· <W.heap.size)) (l.map b) a sz cap (fun i j=>(W.cell? (a.add (i*sz+j))).getD undef) (fun C=>by
     have M:0<len:=by
      rcases aG len with h|h
      ·exact absurd (I4 (hlen.trans h)) C
      ·exact h
     obtain⟨v,y,f,_,q,_⟩:=k 0 M
     have:=World.cells?_block q (by omega)
     rw[Kl]at this
     rw[←Go.Eng.block_add a 0];exact this)
    (by rw[hlen];exact z) (fun e' he=>by obtain⟨y,_,rfl⟩:=YT.1 he;exact hl y)
    (fun i j e' x d o=>by obtain⟨c,p,_⟩:=cell i j e' x d o;rw[p];rfl)
    (fun i j e' x d o=>by obtain⟨c,p,q⟩:=cell i j e' x d o;rw[p];exact q)
   rw[hlen]at this
   exact this
  ·rw[Zq6,lO,bk]
   have:=rN (e:=b) l g (by omega) (fun i v s=>by
    obtain⟨y,f,p,q,F,G⟩:=r i v s
    exact⟨y,p,G⟩)
   omega
def FB(xs:List (DataW H×List MemPlace))(i:Nat):Nat:=Rows.uptoBulkAll ((xs.drop i).map (·.1))
theorem Bw{xs:List (DataW H×List MemPlace)}{i:Nat}{a b:List D}(h:Ar a+1+FB xs (i+1)≤FB xs i)(k:Ar b≤FB xs (i+1)):Ar (a++b)≤FB xs i:=by
 rw[Na];omega
theorem EH{xs:List (DataW H×List MemPlace)}{i:Nat}{a:List D}(h:Ar a+1+FB xs (i+1)≤FB xs i):Ar a≤FB xs i:=by omega
theorem EL{xs:List (DataW H×List MemPlace)}{a:List D}(h:Ar a≤FB xs 0):Ar a+1≤Rows.uptoBulk (.agg (xs.map (·.1))):=by
 rw[ZBh];exact Nat.succ_le_succ h
theorem Zzy{α:Type}{e:α→List D}{m i:Nat}{c:TypeId}{a:List Value}{xs:List (DataW H×List MemPlace)}(h:Cm enc P W m c e)(b:DataW.trod enc P W 0 (fun _=>true) true m c a=xs[i]?)(hi:i<xs.length):
  ∃v,LD W (e v) a∧Ar (e v)+1+FB xs (i+1)≤FB xs i:=by
 rw[Ye hi]at b
 obtain⟨v,d,f⟩:=h _ _ b
 refine⟨v,d,?_⟩
 unfold FB
 rw[HQ hi,YY]
 simp only[Rows.uptoBulkAll]
 omega
theorem rf{α:Type}{e:α→List D}{m i k:Nat}{b:TypeId}{a:List Value}{xs:List (DataW H×List MemPlace)}(h:Cm enc P W m b e)(c:DataW.trod enc P W 0 (fun _=>true) true m b a=xs[i]?)(hx:xs.length=k)(hi:Nat.blt i k=true:=by kernel_rfl):
  ∃v,LD W (e v) a∧Ar (e v)+1+FB xs (i+1)≤FB xs i:=Zzy h c (by rw[hx];exact Yh hi)
theorem pl{α:Type}{e e':α→List D}(he:∀x,e x=e' x)(h:Cm enc P W n t e'):Cm enc P W n t e:=fun cs x hx=>by
 obtain⟨v,a,b⟩:=h cs x hx
 grind
theorem Wl{α:Type}{e:α→List D}{q:Array Field}{r:Reach}{b:Nat}{v:Value}{d:DataW H}{p:List MemPlace}(rd:∀n,Cm enc P W n t e)(w:P.underlying t=some (.struct q))(z:Value.okWide P W r b t v)
  (h:DataW.Trod enc P W 0 (fun _=>true) true t v d p):∃x:α,(∀m l,RepA W (· <W.heap.size) (fun _=>⟨0,false,0,0,[]⟩) m l (.agg ((e x).map .d)) v)∧Ar (e x)+1≤Rows.uptoBulk d:=by
 obtain⟨cs,rfl,_⟩:=okWide_struct w z
 obtain⟨n,u⟩:=h
 obtain⟨x,k,s⟩:=rd n _ _ u
 have hl:(e x).length=cs.size:=by rw[k.1];simp[Value.cells]
 have key:∀(i:Nat) (c:Value),cs[i]?=some c→∃d,(e x)[i]?=some d∧RepD W (· <W.heap.size) d c:=fun i c f=>by
  have g:i<(e x).length:=by
   grind
  obtain⟨j,a,o⟩:=k.2 i _ (Ye g)
  have:j=c:=by
   rw[YO]at a
   have:cs.toList[i]?=some j:=a
   grind
  grind
 refine⟨x,fun m l=>.agg _ _ (by rw[YH,hl]) (fun i c f=>?_) (fun i y c hy f=>?_),s⟩
 ·obtain⟨d,_,a⟩:=key i c f;exact a.one
 ·obtain⟨d,a,o⟩:=key i c f
  rw[YS,a]at hy
  cases hy
  exact .d _ _ o
theorem ZG9{r:Reach}{a:Nat}{v:Value}{d:DataW H}{p:List MemPlace}(e:P.underlying t=some .string)(g:Value.okWide P W r a t v)(h:DataW.Trod enc P W 0 (fun _=>true) true t v d p):
  ∃x:ByteArray,(∀S Hp m l,RepA W S Hp m l (.d (.str x)) v)∧x.size+1≤Rows.uptoBulk d:=by
 obtain⟨x,rfl⟩:=okWide_string e g
 obtain⟨n,f⟩:=h
 obtain⟨s,b,c,_⟩:=DataW.trod_string e f
 have b:x=s:=by simpa[Value.cells]using b
 subst b
 have c:d=.lit (.string x.data.toList):=congrArg Prod.fst c
 subst c
 refine⟨x,fun _ _ _ _=>.d _ _ (.str _),?_⟩
 rw[Zow]
 exact Yf _
def q7:Hp:=fun _=>⟨0,false,0,0,[]⟩
theorem ok0(m:Mu):Ok 0 q7 m (· <W.heap.size) W:=⟨fun _ h=>h,fun _ _ h=>(by cases h),fun _ _ h=>(by cases h),fun _ _ _ _ h=>(by cases h),fun _ _ h=>(by cases h),⟨fun _ _ h=>(by cases h),fun _ _ h=>(by cases h),fun _ _ _ _ h=>(by cases h)⟩⟩
def yN(w:World)(S:Nat→Prop)(Hp:Hp)(m:Mu)(l:Nat):List AV→List Value→Prop
 |[],[]=>True
 |x::xs,v::vs=>RepA w S Hp m l x v∧yN w S Hp m l xs vs
 |_,_=>False
theorem ZIQ{w:World}{S:Nat→Prop}{Hp:Hp}{m:Mu}{l:Nat}{xs:List AV}{vs:List Value}(h:yN w S Hp m l xs vs):K8 w S Hp m l xs vs.toArray:=by
 suffices b:xs.length=vs.length∧∀(i:Nat) (x:AV) (v:Value),xs[i]?=some x→vs[i]?=some v→RepA w S Hp m l x v by
  exact⟨by simpa using b.1,fun i x v hx e=>b.2 i x v hx (by simpa using e)⟩
 induction xs generalizing vs with
 |nil=>cases vs with
  |nil=>exact⟨rfl,fun i x v h=>by simp at h⟩
  |cons _ _=>exact h.elim
 |cons x xs f=>cases vs with
  |nil=>exact h.elim
  |cons v vs=>
   obtain⟨c,d⟩:=f h.2
   refine⟨by simp[c],fun i y u hy a=>?_⟩
   cases i with
   |zero=>simp at hy a;subst hy;subst a;exact h.1
   |succ i=>exact d i y u (by simpa using hy) (by simpa using a)
theorem Zvj{f:Func}{s:ChangeSpec}{r:World}{args:Array Value}{ds A:List (DataW H)}{e:List MemPlace}{u:TypeId}(C:DataW.Whole enc P f.params.toList s.vars false W args.toList ds A e)(c:s.vars=[])
  (k:laidOutB P=true) (z:∀t∈f.params.toList,P.readableRec t=true∧t<P.types.size) (g:f.resultTypes.toList=[u]) (L:P.underlying u=some .bool)
  (j:s.fn H (ds++A)={results:=[.lit (.bool true)],args:=ds }) (n:Below W.heap.size W r):s.post enc P f false true false false W args (.bool true) r:=by
 obtain⟨p,q,G,B,rfl,I,J⟩:=id C
 rw[c]at B
 obtain⟨rfl,rfl⟩:=trodVars_none B
 refine⟨ds,[],p++[],[],p,[],C,?_,?_,?_,?_,fun h=>by cases h⟩
 ·rw[j,g]
  have:(Value.bool true).resultList f.resultTypes.size=[.bool true]:=by
   have:f.resultTypes.size=1:=by rw[←HN,g];rfl
   rw[this];rfl
  rw[this]
  exact trodAll_cons_mk (shut_bool L _) trodAll_mk0
 ·rw[j]
  have key:∀(l:List TypeId) (vs:List Value) (m:List (DataW H)) (ps:List MemPlace),(∀t∈l,P.readableRec t=true∧t<P.types.size)→DataW.TrodAll enc P W 0 (fun _=>true) true l vs m ps→
    DataW.TrodAll enc P r 0 (fun b=>decide (b<W.heap.size)) true l vs m ps:=by
   intro l
   induction l with
   |nil=>intro vs m ps _ h;obtain⟨rfl,rfl,rfl⟩:=trodAll_nil h;exact trodAll_mk0
   |cons t l M=>
    intro vs m ps y h
    have w:=DataW.TrodAll.lt h
    obtain⟨v,N,d,D,a,b,rfl,rfl,rfl,E,F⟩:=trodAll_cons h
    exact trodAll_cons_mk (Below.trod k (y t (by simp)).1 (y t (by simp)).2 E n (fun x hx=>w x (HM _ hx))) (M _ _ _ (fun t K=>y t (by simp[K])) F)
  exact key _ _ _ _ z G
 ·rw[c,j];exact rfl
 ·refine⟨n.os,n.output,fun i hi=>?_⟩
  rw[n.block i hi]
  cases W.heap[i]? with
  |none=>rfl
  |some o=>cases o<;>simp
end
end Go.Proofs.YtjbijbkdiijhaaaGreat
namespace Go.Proofs.YtjbijbkdiijhaaaGreat
set_option linter.all false
open Go Go.Eng
section
variable {H:Type} {enc:TypeId×Value→H} {W:World}
set_option maxRecDepth 100000
theorem ZN8(n:Nat):Cm enc Tryz.prog W n 65 Av:=fun cs x hx=>by
 obtain⟨xs,m,rfl,rfl,c,a,b⟩:=DataW.trod_struct Tryz.underlying65 hx
 obtain⟨v0,h,d⟩:=rf (EJ Tryz.underlying3) (b 0 _ rfl) a
 obtain⟨l,i,e⟩:=rf (EJ Tryz.underlying3) (b 1 _ rfl) a
 obtain⟨v2,j,f⟩:=rf (EJ Tryz.underlying27) (b 2 _ rfl) a
 obtain⟨v3,k,g⟩:=rf (EI Tryz.underlying9) (b 3 _ rfl) a
 have q:=EL (Bw d (Bw e (Bw f (EH g))))
 exact⟨.mk v0 l v2 v3,⟨by rw[c];kernel_rfl,(h.at.app (i.at.app (j.at.app k.at)))⟩,q⟩
theorem ZBc(n:Nat)(h:∀k,k<n→Cm enc Tryz.prog W k 33 Ag):Cm enc Tryz.prog W n 63 N6:=fun cs x hx=>by
 obtain⟨xs,m,rfl,rfl,b,a,c⟩:=DataW.trod_struct Tryz.underlying63 hx
 obtain⟨v0,f,d⟩:=rf (h m (by omega)) (c 0 _ rfl) a
 obtain⟨i,g,e⟩:=rf (h m (by omega)) (c 1 _ rfl) a
 have q:=EL (Bw d (EH e))
 exact⟨.mk v0 i,⟨by rw[b];kernel_rfl,(f.at.app g.at)⟩,q⟩
theorem Zso(n:Nat)(h:∀k,k<n→Cm enc Tryz.prog W k 33 Ag):Cm enc Tryz.prog W n 61 Dz:=fun cs x hx=>by
 obtain⟨xs,m,rfl,rfl,b,a,c⟩:=DataW.trod_struct Tryz.underlying61 hx
 obtain⟨v0,f,d⟩:=rf (EJ Tryz.underlying3) (c 0 _ rfl) a
 obtain⟨i,g,e⟩:=rf (h m (by omega)) (c 1 _ rfl) a
 have q:=EL (Bw d (EH e))
 exact⟨.mk v0 i,⟨by rw[b];kernel_rfl,(f.at.app g.at)⟩,q⟩
theorem Rx(n:Nat):Cm enc Tryz.prog W n 33 Ag:=by
 induction n using Nat.strongRecOn with
 |ind n e=>
 intro cs x hx
 obtain⟨xs,m,rfl,rfl,c,a,b⟩:=DataW.trod_struct Tryz.underlying33 hx
 obtain⟨v0,s,f⟩:=rf (EJ Tryz.underlying3) (b 0 _ rfl) a
 obtain⟨A,t,g⟩:=rf (EJ Tryz.underlying27) (b 1 _ rfl) a
 obtain⟨v2,u,h⟩:=rf (EI Tryz.underlying9) (b 2 _ rfl) a
 obtain⟨v3,v,i⟩:=rf (Dn Tryz.underlying28 (by kernel_rfl:Tryz.prog.cellsOf 33=7) (by decide) (fun x=>by rw[Gx];rfl) (fun k d=>(pl Gx (e k (by omega))))) (b 3 _ rfl) a
 obtain⟨v4,w,l⟩:=rf (Dn Tryz.underlying29 (by kernel_rfl:Tryz.prog.cellsOf 63=14) (by decide) (fun x=>by rw[Ls];rfl) (fun k d=>(pl Ls (ZBc k (fun j r=>e j (by omega)))))) (b 4 _ rfl) a
 obtain⟨B,y,o⟩:=rf (Dn Tryz.underlying30 (by kernel_rfl:Tryz.prog.cellsOf 61=8) (by decide) (fun x=>by rw[La];rfl) (fun k d=>(pl La (Zso k (fun j r=>e j (by omega)))))) (b 5 _ rfl) a
 obtain⟨C,z,p⟩:=rf (Dn Tryz.underlying31 (by kernel_rfl:Tryz.prog.cellsOf 65=4) (by decide) (fun _=>rfl) (fun k d=>(ZN8 k))) (b 6 _ rfl) a
 have q:=EL (Bw f (Bw g (Bw h (Bw i (Bw l (Bw o (EH p)))))))
 exact⟨.mk v0 A v2 v3 v4 B C,⟨by rw[c];kernel_rfl,(s.at.app (t.at.app (u.at.app (v.at.app (w.at.app (y.at.app z.at))))))⟩,q⟩
theorem ZP6(n:Nat):Cm enc Tryz.prog W n 49 Hw:=fun cs x hx=>by
 obtain⟨xs,m,rfl,rfl,b,a,c⟩:=DataW.trod_struct Tryz.underlying49 hx
 obtain⟨v0,f,d⟩:=rf (EJ Tryz.underlying3) (c 0 _ rfl) a
 obtain⟨h,g,e⟩:=rf (EI Tryz.underlying9) (c 1 _ rfl) a
 have q:=EL (Bw d (EH e))
 exact⟨.mk v0 h,⟨by rw[b];kernel_rfl,(f.at.app g.at)⟩,q⟩
theorem Nu(n:Nat):Cm enc Tryz.prog W n 180 Cg:=fun cs x hx=>by
 obtain⟨xs,m,rfl,rfl,b,a,c⟩:=DataW.trod_struct Tryz.underlying180 hx
 obtain⟨v0,f,d⟩:=rf (EI Tryz.underlying9) (c 0 _ rfl) a
 obtain⟨h,g,e⟩:=rf (Rx m) (c 1 _ rfl) a
 have q:=EL (Bw d (EH e))
 exact⟨.mk v0 h,⟨by rw[b];kernel_rfl,(f.at.app g.at)⟩,q⟩
theorem ZMp(n:Nat):Cm enc Tryz.prog W n 51 AB:=fun cs x hx=>by
 obtain⟨xs,m,rfl,rfl,c,a,b⟩:=DataW.trod_struct Tryz.underlying51 hx
 obtain⟨v0,p,d⟩:=rf (EJ Tryz.underlying3) (b 0 _ rfl) a
 obtain⟨A,r,e⟩:=rf (EI Tryz.underlying9) (b 1 _ rfl) a
 obtain⟨v2,s,f⟩:=rf (EJ Tryz.underlying3) (b 2 _ rfl) a
 obtain⟨v3,t,g⟩:=rf (EJ Tryz.underlying3) (b 3 _ rfl) a
 obtain⟨v4,u,h⟩:=rf (ZP6 m) (b 4 _ rfl) a
 obtain⟨B,v,i⟩:=rf (EI Tryz.underlying9) (b 5 _ rfl) a
 obtain⟨C,w,j⟩:=rf (Zuq Tryz.underlying4) (b 6 _ rfl) a
 obtain⟨D,y,l⟩:=rf (Rx m) (b 7 _ rfl) a
 obtain⟨E,z,o⟩:=rf (Dn Tryz.underlying43 (by kernel_rfl:Tryz.prog.cellsOf 180=8) (by decide) (fun _=>rfl) (fun k F=>(Nu k))) (b 8 _ rfl) a
 have q:=EL (Bw d (Bw e (Bw f (Bw g (Bw h (Bw i (Bw j (Bw l (EH o)))))))))
 exact⟨.mk v0 A v2 v3 v4 B C D E,⟨by rw[c];kernel_rfl,(p.at.app (r.at.app (s.at.app (t.at.app (u.at.app (v.at.app (w.at.app (y.at.app z.at))))))))⟩,q⟩
theorem si(n:Nat):Cm enc Tryz.prog W n 152 CH:=fun cs x hx=>by
 obtain⟨xs,m,rfl,rfl,b,a,c⟩:=DataW.trod_struct Tryz.underlying152 hx
 obtain⟨v0,f,d⟩:=rf (EJ Tryz.underlying3) (c 0 _ rfl) a
 obtain⟨h,g,e⟩:=rf (EJ Tryz.underlying3) (c 1 _ rfl) a
 have q:=EL (Bw d (EH e))
 exact⟨.mk v0 h,⟨by rw[b];kernel_rfl,(f.at.app g.at)⟩,q⟩
theorem ZLP(n:Nat):Cm enc Tryz.prog W n 45 AR:=fun cs x hx=>by
 obtain⟨xs,m,rfl,rfl,c,a,b⟩:=DataW.trod_struct Tryz.underlying45 hx
 obtain⟨v0,j,e⟩:=rf (EI Tryz.underlying9) (b 0 _ rfl) a
 obtain⟨s,l,f⟩:=rf (Dn Tryz.underlying40 (by kernel_rfl:Tryz.prog.cellsOf 51=16) (by decide) (fun _=>rfl) (fun k d=>(ZMp k))) (b 1 _ rfl) a
 obtain⟨v2,o,g⟩:=rf (Dn Tryz.underlying41 (by kernel_rfl:Tryz.prog.cellsOf 152=2) (by decide) (fun _=>rfl) (fun k d=>(si k))) (b 2 _ rfl) a
 obtain⟨v3,p,h⟩:=rf (Dn Tryz.underlying42 (by kernel_rfl:Tryz.prog.cellsOf 9=1) (by decide) (fun _=>rfl) (fun k d=>(EI Tryz.underlying9))) (b 3 _ rfl) a
 obtain⟨v4,r,i⟩:=rf (Dn Tryz.underlying43 (by kernel_rfl:Tryz.prog.cellsOf 180=8) (by decide) (fun _=>rfl) (fun k d=>(Nu k))) (b 4 _ rfl) a
 have q:=EL (Bw e (Bw f (Bw g (Bw h (EH i)))))
 exact⟨.mk v0 s v2 v3 v4,⟨by rw[c];kernel_rfl,(j.at.app (l.at.app (o.at.app (p.at.app r.at))))⟩,q⟩
theorem ZNA(n:Nat):Cm enc Tryz.prog W n 125 Gc:=fun cs x hx=>by
 obtain⟨xs,m,rfl,rfl,b,a,c⟩:=DataW.trod_struct Tryz.underlying125 hx
 obtain⟨v0,g,d⟩:=rf (EI Tryz.underlying9) (c 0 _ rfl) a
 obtain⟨j,h,e⟩:=rf (EJ Tryz.underlying3) (c 1 _ rfl) a
 obtain⟨v2,i,f⟩:=rf (Dn Tryz.underlying43 (by kernel_rfl:Tryz.prog.cellsOf 180=8) (by decide) (fun _=>rfl) (fun k l=>(Nu k))) (c 2 _ rfl) a
 have q:=EL (Bw d (Bw e (EH f)))
 exact⟨.mk v0 j v2,⟨by rw[b];kernel_rfl,(g.at.app (h.at.app i.at))⟩,q⟩
theorem ZP2(n:Nat):Cm enc Tryz.prog W n 89 CA:=fun cs x hx=>by
 obtain⟨xs,m,rfl,rfl,c,a,b⟩:=DataW.trod_struct Tryz.underlying89 hx
 obtain⟨v0,j,e⟩:=rf (EI Tryz.underlying9) (b 0 _ rfl) a
 obtain⟨s,l,f⟩:=rf (Zuq Tryz.underlying4) (b 1 _ rfl) a
 obtain⟨v2,o,g⟩:=rf (Dn Tryz.underlying87 (by kernel_rfl:Tryz.prog.cellsOf 125=3) (by decide) (fun _=>rfl) (fun k d=>(ZNA k))) (b 2 _ rfl) a
 obtain⟨v3,p,h⟩:=rf (Dn Tryz.underlying41 (by kernel_rfl:Tryz.prog.cellsOf 152=2) (by decide) (fun _=>rfl) (fun k d=>(si k))) (b 3 _ rfl) a
 obtain⟨v4,r,i⟩:=rf (Dn Tryz.underlying43 (by kernel_rfl:Tryz.prog.cellsOf 180=8) (by decide) (fun _=>rfl) (fun k d=>(Nu k))) (b 4 _ rfl) a
 have q:=EL (Bw e (Bw f (Bw g (Bw h (EH i)))))
 exact⟨.mk v0 s v2 v3 v4,⟨by rw[c];kernel_rfl,(j.at.app (l.at.app (o.at.app (p.at.app r.at))))⟩,q⟩
theorem ZOA(n:Nat):Cm enc Tryz.prog W n 127 Hz:=fun cs x hx=>by
 obtain⟨xs,m,rfl,rfl,c,a,b⟩:=DataW.trod_struct Tryz.underlying127 hx
 obtain⟨v0,i,d⟩:=rf (EI Tryz.underlying9) (b 0 _ rfl) a
 obtain⟨r,j,e⟩:=rf (EI Tryz.underlying9) (b 1 _ rfl) a
 obtain⟨v2,l,f⟩:=rf (EI Tryz.underlying9) (b 2 _ rfl) a
 obtain⟨v3,o,g⟩:=rf (EJ Tryz.underlying3) (b 3 _ rfl) a
 obtain⟨v4,p,h⟩:=rf (Dn Tryz.underlying43 (by kernel_rfl:Tryz.prog.cellsOf 180=8) (by decide) (fun _=>rfl) (fun k s=>(Nu k))) (b 4 _ rfl) a
 have q:=EL (Bw d (Bw e (Bw f (Bw g (EH h)))))
 exact⟨.mk v0 r v2 v3 v4,⟨by rw[c];kernel_rfl,(i.at.app (j.at.app (l.at.app (o.at.app p.at))))⟩,q⟩
theorem ZLF(n:Nat):Cm enc Tryz.prog W n 93 Dr:=fun cs x hx=>by
 obtain⟨xs,m,rfl,rfl,b,a,c⟩:=DataW.trod_struct Tryz.underlying93 hx
 obtain⟨v0,h,d⟩:=rf (EI Tryz.underlying9) (c 0 _ rfl) a
 obtain⟨l,i,e⟩:=rf (Dn Tryz.underlying91 (by kernel_rfl:Tryz.prog.cellsOf 127=5) (by decide) (fun _=>rfl) (fun k g=>(ZOA k))) (c 1 _ rfl) a
 obtain⟨v2,j,f⟩:=rf (Dn Tryz.underlying43 (by kernel_rfl:Tryz.prog.cellsOf 180=8) (by decide) (fun _=>rfl) (fun k g=>(Nu k))) (c 2 _ rfl) a
 have q:=EL (Bw d (Bw e (EH f)))
 exact⟨.mk v0 l v2,⟨by rw[b];kernel_rfl,(h.at.app (i.at.app j.at))⟩,q⟩
theorem ZM5(n:Nat):Cm enc Tryz.prog W n 26 Au:=fun cs x hx=>by
 obtain⟨xs,m,rfl,rfl,b,a,c⟩:=DataW.trod_struct Tryz.underlying26 hx
 obtain⟨v0,h,e⟩:=rf (Dn Tryz.underlying22 (by kernel_rfl:Tryz.prog.cellsOf 45=5) (by decide) (fun _=>rfl) (fun k d=>(ZLP k))) (c 0 _ rfl) a
 obtain⟨l,i,f⟩:=rf (Dn Tryz.underlying23 (by kernel_rfl:Tryz.prog.cellsOf 89=5) (by decide) (fun _=>rfl) (fun k d=>(ZP2 k))) (c 1 _ rfl) a
 obtain⟨v2,j,g⟩:=rf (Dn Tryz.underlying24 (by kernel_rfl:Tryz.prog.cellsOf 93=3) (by decide) (fun _=>rfl) (fun k d=>(ZLF k))) (c 2 _ rfl) a
 have q:=EL (Bw e (Bw f (EH g)))
 exact⟨.mk v0 l v2,⟨by rw[b];kernel_rfl,(h.at.app (i.at.app j.at))⟩,q⟩
end
end Go.Proofs.YtjbijbkdiijhaaaGreat
namespace Go.Eng
set_option linter.all false
open Go Go.RowKit
section
variable {σ ξ ρ α β γ:Type}
theorem Fa{B:Nat→Option (Lv Nat ξ ρ)}{N:Nat}(l:List α)(p:α→Bool)(f:Nat→ρ)(e:ξ)
  (hs:∀i x,l[i]?=some x→B i=some (if p x=true then .rt (f i)else .nx (i+1))) (he:B l.length=some (.ex e)) (hN:l.length<N):
  Am B N 0=some (match l.findIdx? p with|some i=>.inr (f i)|none=>.inl e):=by
 suffices H:∀k i N,i+k=l.length→k<N→Am B N i=some (match (l.drop i).findIdx? p with|some j=>.inr (f (i+j))|none=>.inl e)by
  have:=H l.length 0 N (by omega) hN
  simpa using this
 intro k
 induction k with
 |zero=>
  intro i N hi hN
  obtain⟨N,rfl⟩:∃m,N=m+1:=⟨N-1,by omega⟩
  have:i=l.length:=by omega
  subst this
  rw[Am,he,S6]
  rfl
 |succ k b=>
  intro i N hi hN
  obtain⟨N,rfl⟩:∃m,N=m+1:=⟨N-1,by omega⟩
  have a:i<l.length:=by omega
  rw[Am,hs i l[i] (Ye a),HQ a,List.findIdx?_cons]
  cases c:p l[i]with
  |true=>simp
  |false=>
   simp only[Yo,YR]
   rw[b (i+1) N (by omega) (by omega)]
   cases(List.drop (i+1) l).findIdx? p with
   |none=>rfl
   |some j=>simp[YK,OF 1 j]
def Ng(R:List α→α→Option ρ):List α→List α→Option ρ
 |_,[]=>none
 |p,x::l=>match R p x with
  |some r=>some r
  |none=>Ng R (p++[x]) l
theorem Zx5{B:σ→Option (Lv σ ξ ρ)}{N:Nat}(l:List α)(S:List α→β)(R:List α→α→Option ρ)(mk:Nat→β→σ)(e:β→ξ)
  (hs:∀i x,l[i]?=some x→B (mk i (S (l.take i)))=some (match R (l.take i) x with|some r=>.rt r|none=>.nx (mk (i+1) (S (l.take i++[x])))))
  (he:B (mk l.length (S l))=some (.ex (e (S l)))) (hN:l.length<N):Am B N (mk 0 (S []))=some ((Ng R [] l).elim (.inl (e (S l))) .inr):=by
 suffices H:∀k i N,i+k=l.length→k<N→Am B N (mk i (S (l.take i)))=some ((Ng R (l.take i) (l.drop i)).elim (.inl (e (S l))) .inr)by
  have:=H l.length 0 N (by omega) hN
  grind
 intro k
 induction k with
 |zero=>
  intro i N hi hN
  obtain⟨N,rfl⟩:∃m,N=m+1:=⟨N-1,by omega⟩
  have:i=l.length:=by omega
  subst this
  rw[Am,L7,he,S6]
  rfl
 |succ k b=>
  intro i N hi hN
  obtain⟨N,rfl⟩:∃m,N=m+1:=⟨N-1,by omega⟩
  have a:i<l.length:=by omega
  rw[Am,hs i l[i] (Ye a),HQ a,Ng]
  cases R (l.take i) l[i]with
  |some r=>rfl
  |none=>
   have:=b (i+1) N (by omega) (by omega)
   rw[Y8 a]at this
   exact this
theorem zm{R:List α→α→Option ρ}(h:∀p x,R p x=none):∀(l p:List α),Ng R p l=none
 |[],p=>rfl
 |x::l,p=>by rw[Ng,h];exact zm h l _
theorem FL{B:σ→Option (Lv σ ξ ρ)}{N:Nat}(l:List α)(S:List α→β)(mk:Nat→β→σ)(e:β→ξ)
  (hs:∀i x,l[i]?=some x→B (mk i (S (l.take i)))=some (.nx (mk (i+1) (S (l.take i++[x])))))
  (he:B (mk l.length (S l))=some (.ex (e (S l)))) (hN:l.length<N):Am B N (mk 0 (S []))=some (.inl (e (S l))):=by
 rw[Zx5 l S (fun _ _=>none) mk e hs he hN,zm fun _ _=>rfl]
 rfl
theorem ZpW{B:σ→Option (Lv σ ξ ρ)}(I:Nat→σ→Prop)(Q:ξ ⊕ ρ→Prop)
  (h:∀k v,I k v→∃o,B v=some o∧match o with|.nx c=>∃k',k'<k∧I k' c|.ex b=>Q (.inl b)|.rt y=>Q (.inr y)):
  ∀N k v,k<N→I k v→∃o,Am B N v=some o∧Q o
 |0,k,v,d,_=>absurd d (Y5 _)
 |N+1,k,v,d,g=>by
  obtain⟨o,e,a⟩:=h k v g
  rw[Am,e]
  cases o with
  |nx c=>obtain⟨k',i,f⟩:=a;exact ZpW I Q h N k' c (by omega) f
  |ex b=>exact⟨_,rfl,a⟩
  |rt y=>exact⟨_,rfl,a⟩
theorem BS{l:List α}{i:Nat}{x:α}(h:l[i]?=some x):(i:Int)<(l.length:Int):=by
 grind
theorem A2{n:Nat}(h:n<4611686018427387904):n<Al:=h
end
end Go.Eng
namespace Go.Proofs.YtjbijbkdiijhaaaGreat
set_option linter.all false
open Go Go.Eng
def Ok{α:Type}(Q:α→Prop)(o:Option α):Prop:=∃y,o=some y∧Q y
section
variable {α β γ σ ξ ρ:Type} {Q:β→Prop} {P:α→Prop}
theorem AM{y:β}(h:Q y):Ok Q (some y):=⟨y,rfl,h⟩
theorem AO{m:Option α}{k:α→Option β}(h:Ok P m)(a:∀y,P y→Ok Q (k y)):Ok Q (m.bind k):=by
 obtain⟨y,rfl,h⟩:=h
 exact a y h
theorem B0{xs:List α}{i:Nat}{k:α→Option β}(h:i<xs.length)(a:∀x,xs[i]?=some x→x∈xs→Ok Q (k x)):Ok Q (xs[i]?.bind k):=by
 rw[Ye h]
 exact a _ (Ye h) (Gn h)
theorem AS{b:Bool}{x y:Option β}(h:b=true→Ok Q x)(a:b=false→Ok Q y):Ok Q (if b=true then x else y):=by
 cases b
 ·exact a rfl
 ·exact h rfl
theorem AX{c:Prop}{d:Decidable c}{a:Option β}(b:c)(h:Ok Q a):Ok Q (if c then a else none):=by
 rw[Ym b]
 exact h
theorem uN{lo hi:Bd}{n:Nat}{a:Option β}(b:lo.c∧hi.c∧lo.vl 0≤hi.vl n∧hi.vl n≤n)(h:Ok Q a):Ok Q (if lo.c∧hi.c∧lo.vl 0≤hi.vl n∧hi.vl n≤n then a else none):=by
 rw[Ym b]
 exact h
theorem BB{b:Bool}{m:Option α}{x:Option β}(h:b=true→Ok P m)[Inhabited α](d:(b=true→P (m.getD default))→Ok Q x):Ok Q (if(b=true→m.isSome=true)then x else none):=by
 rw[Ym fun e=>by obtain⟨y,h,_⟩:=h e;rw[h];rfl]
 refine d fun e=>?_
 obtain⟨y,a,c⟩:=h e
 rw[a]
 exact c
theorem Gy{b:Bool}{xs:List α}{i:Int}{x:Option β}[Rw α](h:b=true→0≤i∧i<xs.length)(c:(b=true→xs[i.toNat]?=some (xs.getD i.toNat Rw.z)∧xs.getD i.toNat Rw.z∈xs)→Ok Q x):Ok Q (if(b=true→0≤i∧i<xs.length)then x else none):=by
 rw[Ym h]
 refine c fun e=>?_
 have d:=h e
 have a:i.toNat<xs.length:=by omega
 rw[Yg,Ye a]
 exact⟨rfl,Gn a⟩
theorem BF{B:σ→Option (Lv σ ξ ρ)}{N:Nat}{v:σ}(I:σ→Prop)(μ:σ→Nat){A:ξ→Prop}{R:ρ→Prop}(d:I v)(hN:μ v<N)
  (hs:∀v,I v→Ok (fun o=>match o with|.nx c=>I c∧μ c<μ v|.ex b=>A b|.rt y=>R y) (B v)):Ok (Sum.elim A R) (Am B N v):=
 ZpW (fun k v=>I v∧μ v≤k) (Sum.elim A R) (fun k v h=>by
  obtain⟨o,e,a⟩:=hs v h.1
  refine⟨o,e,?_⟩
  cases o with
  |nx c=>exact⟨μ c,by have:=a.2;have:=h.2;omega,a.1,Yf _⟩
  |ex b=>exact a
  |rt y=>exact a) N (μ v) v hN ⟨d,Yf _⟩
theorem BT{m:Option (ξ ⊕ ρ)}{A:ξ→Prop}{R:ρ→Prop}{f:ξ→Option β}{g:ρ→Option β}(h:Ok (Sum.elim A R) m)(hx:∀b,A b→Ok Q (f b))(a:∀r,R r→Ok Q (g r)):Ok Q (m.bind (Sum.elim f g)):=by
 obtain⟨y,rfl,h⟩:=h
 cases y with
 |inl b=>exact hx b h
 |inr r=>exact a r h
theorem Ok.mono{a:β→Prop}{o:Option β}(h:Ok Q o)(k:∀y,Q y→a y):Ok a o:=by
 obtain⟨y,b,c⟩:=h
 exact⟨y,b,k y c⟩
theorem Ok.some{o:Option β}(h:Ok Q o):o.isSome=true:=by
 obtain⟨y,a,b⟩:=h
 rw[a]
 rfl
end
abbrev Tr{α:Type}:α→Prop:=fun _=>True
abbrev No{α:Type}:α→Prop:=fun _=>False
abbrev Ts{α β:Type}:α ⊕ β→Prop:=Sum.elim Tr Tr
theorem sz0:(⟨#[]⟩:ByteArray).size=0:=rfl
theorem A5{p:Prop}(h:p:=by first|trivial|assumption|contradiction|omega|grind|(simp only[Bd.c,Bd.vl,ByteArray.size_append,ByteArray.size_extract,sz0]at*;grind)):p:=h
theorem Ck{p:Prop}(h:p:=by first|trivial|assumption|contradiction|omega|solve_by_elim|(simp only[Yb,YI,YJ,Kh,Ki,Yy,YN]at*;omega)|grind):p:=h
theorem UG(x:Int):Ok Tr (y0 x):=⟨_,rfl,trivial⟩
theorem UK(x:Int):Ok Tr (yV x):=⟨_,rfl,trivial⟩
theorem yh(x:Val):Ok Tr (Py x):=⟨_,rfl,trivial⟩
theorem yj(x:Int):Ok Tr (MH x):=⟨_,rfl,trivial⟩
theorem ym(x:Int):Ok Tr (Px x):=by
 dsimp only[Px,Wy,br,lr,br,rem]
 (repeat' (first|with_reducible (first|refine AS (fun _=>?_) fun _=>?_|refine AM ?_|refine AX ?_ ?_)))<;>exact Ck
theorem iT(x:ByteArray):Ok Tr (jy x):=by
 dsimp only[jy,oc,VS,PQ,PI,br,lr,br]
 (repeat' (first|with_reducible (first|refine AS (fun _=>?_) fun _=>?_|refine AM ?_|refine AX ?_ ?_)))<;>exact Ck
theorem ZVa(x:ByteArray)(n:Int):Ok Tr (jB x n):=by
 dsimp only[jB,n2,kC,VN,VE,PJ,PK,VA,br,lr,br]
 (repeat' (first|with_reducible (first|refine AS (fun _=>?_) fun _=>?_|refine AM ?_|refine AX ?_ ?_)))<;>exact Ck
theorem iN(x:ByteArray):Ok Tr (jK x):=by
 dsimp only[jK,nq,br,lr,br]
 (repeat' (first|with_reducible (first|refine AS (fun _=>?_) fun _=>?_|refine AM ?_|refine AX ?_ ?_)))<;>exact Ck
def LY(x:Fld):Prop:=(x.card≠5→1≤x.card∧x.card≤4∧x.key=0)∧(x.card=5→x.key=1∨x.key=2∨x.key=3∨x.key=4∨x.key=5∨x.key=7)
theorem o91(x:Fld):Ok (fun b=>b=true→LY x) (jw x):=by
 unfold LY
 dsimp only[jw,gp,br,wg,lr,br]
 (repeat' (first|with_reducible (first|refine AS (fun _=>?_) fun _=>?_|refine AM ?_|refine AX ?_ ?_)))<;>(intro h;first|(cases h;done)|(simp only[Yb,YJ,aj,Yy,YN]at*;omega))
theorem gX(x:ByteArray)(i a b:Int)(h:0≤i):Ok Tr (MJ x i a b):=by
 dsimp only[MJ,WX,vz,lr,BH,Gi]
 (repeat' (first|with_reducible (first|refine AS (fun _=>?_) fun _=>?_|refine AM ?_|refine AX ?_ ?_)))<;>exact Ck
theorem yo(x:ByteArray)(i n:Int)(h:0≤i)(a:i≤2097152)(b:n≤9):Ok Tr (KW x i n):=by
 have q:Ok Ts (Am (Lh x i n) Al 0):=by
  refine BF (fun _:Nat=>True) (fun v:Nat=>(n-v).toNat) trivial ?_ fun v _=>?_
  ·unfold Al
   omega
  dsimp only[Lh,QH,br,vs,AA,ln,Ai,cl,wa,wi,br]
  (repeat' (first|with_reducible (first|refine AS (fun _=>?_) fun _=>?_|refine AM ?_)|(with_reducible apply AO;(exact gX _ _ _ _ (by omega));intro _ _)|with_reducible refine AX ?_ ?_))<;>exact Ck
 dsimp only[KW,Xp,Xo,WJ,lr,lc]
 (repeat' (first|with_reducible (first|refine AS (fun _=>?_) fun _=>?_|refine AM ?_)|(with_reducible apply BT;(exact q);all_goals(intro _ _;try dsimp only))|with_reducible refine AX ?_ ?_))<;>exact Ck
set_option maxRecDepth 20000 in
theorem ZVD(x:ByteArray)(i:Int)(h:0≤i)(h1:i<x.size)(h2:x.size≤1048576):Ok (fun y=>0≤y∧y≤4) (PA x i):=by
 dsimp only[PA,WS,br,vg,lr,AP,wi,br,Sn]
 (repeat' (first|with_reducible (first|refine AS (fun _=>?_) fun _=>?_|refine AM ?_|refine B0 ?_ fun _ _ _=>?_)|(with_reducible apply AO;(exact gX _ _ _ _ (by omega));intro _ _)|(with_reducible apply AO;(exact yo _ _ _ (by omega) (by omega) (by omega));intro _ _)|(with_reducible apply BB;(exact fun _=>gX _ _ _ _ (by omega));intro _)|(with_reducible apply BB;(exact fun _=>yo _ _ _ (by omega) (by omega) (by omega));intro _)|with_reducible refine AX ?_ ?_))<;>exact Ck
theorem GA:∀a b:List (List D),AU (a++b)=AU a+AU b
 |[],b=>by rw[Fy,AU,YO]
 |x::a,b=>by rw[HO,AU,AU,GA a b];omega
theorem VO{α:Type}(e:α→List D){l:List α}{i:Nat}{x:α}(h:l[i]?=some x):AU ((l.take (i+1)).map e)=AU ((l.take i).map e)+Ar (e x)+1:=by
 obtain⟨a,rfl⟩:=Ya.1 h
 rw[Y8 a,DT,GA]
 simp only[YY,D9,AU]
 omega
theorem MZ{α:Type}(e:α→List D)(l:List α)(i:Nat):AU ((l.take i).map e)≤AU (l.map e):=by
 conv=>rhs;rw[←HS i l,DT,GA]
 omega
structure SzV (v:Val):Prop where
 t:v.text.size≤1048576
 l:v.list.length≤1048576
 p:v.pairs.length≤1048576
 s:v.slots.length≤1048576
 r:v.raws.length≤1048576
structure SzN (x:Nt):Prop where
 n:x.name.size≤1048576
 v:SzV x.val
abbrev HX(l:List Nt):Prop:=l.length≤1048576∧∀x∈l,SzN x
structure SzF (x:Fld):Prop where
 n:x.name.size≤1048576
 t:x.type.name.size≤1048576
 u:x.union.size≤1048576
 d:SzV x.dflt
 o:HX x.notes
structure SzM (x:Msg):Prop where
 n:x.name.size≤1048576
 fl:x.fields.length≤1048576
 f:∀y∈x.fields,SzF y
 r:x.reserved.length≤1048576
 gl:x.gone.length≤1048576
 g:∀y∈x.gone,y.size≤1048576
 o:HX x.notes
structure SzI (x:Itm):Prop where
 n:x.name.size≤1048576
 o:HX x.notes
structure SzE (x:Enm):Prop where
 n:x.name.size≤1048576
 il:x.items.length≤1048576
 i:∀y∈x.items,SzI y
 r:x.reserved.length≤1048576
 o:HX x.notes
structure SzT (x:Mth):Prop where
 n:x.name.size≤1048576
 o:HX x.notes
structure SzW (x:Svc):Prop where
 n:x.name.size≤1048576
 ml:x.methods.length≤1048576
 m:∀y∈x.methods,SzT y
 o:HX x.notes
structure SzS (x:Scm):Prop where
 ml:x.messages.length≤1048576
 m:∀y∈x.messages,SzM y
 el:x.enums.length≤1048576
 e:∀y∈x.enums,SzE y
 wl:x.services.length≤1048576
 w:∀y∈x.services,SzW y
theorem DB{v:Val}(h:Ar (Ag v)≤1048576):SzV v:=by
 have a:=CD (e:=Bb) v.list
 have b:=CD (e:=Ap) v.pairs
 have c:=CD (e:=Aq) v.slots
 have d:=CD (e:=Av) v.raws
 simp only[Ag,Ar,bk]at h
 constructor<;>omega
theorem uz{v:Val}(h:Ar (Ag v)≤1048576):0≤v.bits∧v.bits≤18446744073709551615:=by
 simp only[Ag,Ar,bk]at h
 have:=wG (k:=.u64) (n:=v.bits) (by omega)
 exact this
theorem szN{x:Nt}(h:Ar (Cg x)≤1048576):SzN x:=by
 have e:Ar (Cg x)=x.name.size+Ar (Ag x.val):=by simp only[Cg,Ag,Ar,bk]
 exact⟨by omega,DB (by omega)⟩
theorem MD{l:List Nt}(h:AU (l.map Cg)≤1048576):HX l:=⟨by have:=CD (e:=Cg) l;omega,fun x hx=>szN (by have:=C8 (e:=Cg) hx;omega)⟩
theorem szF{x:Fld}(h:Ar (AB x)≤1048576):SzF x:=by
 have e:x.name.size+x.type.name.size+x.union.size+Ar (Ag x.dflt)+AU (x.notes.map Cg)≤Ar (AB x):=by
  simp only[AB,Ag,Ar,bk]
  omega
 exact⟨by omega,by omega,by omega,DB (by omega),MD (by omega)⟩
theorem szM{x:Msg}(h:Ar (AR x)≤1048576):SzM x:=by
 simp only[AR,Ar,bk]at h
 have a:=CD (e:=AB) x.fields
 have b:=CD (e:=CH) x.reserved
 have c:=CD (e:=Bx) x.gone
 exact⟨by omega,by omega,fun y hy=>szF (by have:=C8 (e:=AB) hy;omega),by omega,by omega,fun y hy=>by have:=C8 (e:=Bx) hy;simp only[Bx,Ar,bk]at this;omega,MD (by omega)⟩
theorem szI{x:Itm}(h:Ar (Gc x)≤1048576):SzI x:=by
 simp only[Gc,Ar,bk]at h
 exact⟨by omega,MD (by omega)⟩
theorem szE{x:Enm}(h:Ar (CA x)≤1048576):SzE x:=by
 simp only[CA,Ar,bk]at h
 have a:=CD (e:=Gc) x.items
 have b:=CD (e:=CH) x.reserved
 exact⟨by omega,by omega,fun y hy=>szI (by have:=C8 (e:=Gc) hy;omega),by omega,MD (by omega)⟩
theorem szT{x:Mth}(h:Ar (Hz x)≤1048576):SzT x:=by
 simp only[Hz,Ar,bk]at h
 exact⟨by omega,MD (by omega)⟩
theorem szW{x:Svc}(h:Ar (Dr x)≤1048576):SzW x:=by
 simp only[Dr,Ar,bk]at h
 have a:=CD (e:=Hz) x.methods
 exact⟨by omega,by omega,fun y hy=>szT (by have:=C8 (e:=Hz) hy;omega),MD (by omega)⟩
theorem Gk{x:Scm}(h:Ar (Au x)≤1048576):SzS x:=by
 simp only[Au,Ar,bk]at h
 have a:=CD (e:=AR) x.messages
 have b:=CD (e:=CA) x.enums
 have c:=CD (e:=Dr) x.services
 exact⟨by omega,fun y hy=>szM (by have:=C8 (e:=AR) hy;omega),by omega,fun y hy=>szE (by have:=C8 (e:=CA) hy;omega),by omega,fun y hy=>szW (by have:=C8 (e:=Dr) hy;omega)⟩
theorem lX(x:ByteArray):x.data.toList.length=x.size:=by rw[HN];rfl
theorem B1{n:Nat}(h:n≤2097152):n<Al:=by unfold Al;omega
theorem ZVg(x:ByteArray)(h:x.size≤1048576):Ok Tr (Vd x):=by
 have q:Ok Ts (Am (Nn x) Al 0):=by
  refine BF (fun v:Int=>0≤v∧v≤x.size+4) (fun v:Int=>(x.size+4-v).toNat) ⟨by omega,by omega⟩ (B1 (by omega)) fun v a=>?_
  dsimp only[Nn,Xe,br,vz,vs,AA,ln,Ai,cl,wi,BH,br]
  (repeat' (first|with_reducible (first|refine AS (fun _=>?_) fun _=>?_|refine AM ?_)|(with_reducible apply AO;(exact ZVD _ _ a.1 Ck h);intro _ _)|with_reducible refine AX ?_ ?_))<;>exact A5
 dsimp only[Vd,WP,Xk,WV,lr,lc]
 (repeat' (first|with_reducible (first|refine AS (fun _=>?_) fun _=>?_|refine AM ?_)|(with_reducible apply BT;(exact q);all_goals(intro _ _;try dsimp only))|with_reducible refine AX ?_ ?_))<;>exact Ck
theorem qo(x:ByteArray)(h:x.size≤1048576):Ok Tr (ML x):=by
 dsimp only[ML,X6,lr,cl]
 (repeat' (first|with_reducible (first|refine AS (fun _=>?_) fun _=>?_|refine AM ?_)|(with_reducible apply AO;(exact ZVg _ h);intro _ _)|with_reducible refine AX ?_ ?_))<;>exact Ck
theorem Ub(x:ByteArray)(h:x.size≤1048576):Ok Tr (jI x):=by
 have hl:=lX x
 have q:Ok Ts (Am (Xn x) Al 1):=by
  refine BF (fun v:Nat=>v≤1048577) (fun v:Nat=>1048577-v) (by omega) (B1 (by omega)) fun v a=>?_
  dsimp only[Xn,oZ,br,vz,vs,AA,ln,Ai,cl,AP,wa,BH,br,ib,Gi]
  (repeat' (first|with_reducible (first|refine AS (fun _=>?_) fun _=>?_|refine AM ?_|refine B0 ?_ fun _ _ _=>?_)|(with_reducible apply AO;(exact UG _);intro _ _)|(with_reducible apply AO;(exact UK _);intro _ _)|(with_reducible apply BB;(exact fun _=>UG _);intro _)|(with_reducible apply BB;(exact fun _=>UK _);intro _)|with_reducible refine AX ?_ ?_))<;>exact A5
 dsimp only[jI,oQ,o5,mS,br,vz,vy,lr,lc,AP,BH,br,Gi]
 (repeat' (first|with_reducible (first|refine AS (fun _=>?_) fun _=>?_|refine AM ?_)|(with_reducible apply BT;(exact q);all_goals(intro _ _;try dsimp only))|(with_reducible apply AO;(exact UG _);intro _ _)|(with_reducible apply AO;(exact UK _);intro _ _)|(with_reducible apply BB;(exact fun _=>UG _);intro _)|(with_reducible apply BB;(exact fun _=>UK _);intro _)|with_reducible refine AX ?_ ?_))<;>exact Ck
theorem ZVM(x:ByteArray)(h:x.size≤1048576):Ok Tr (jf x):=by
 have hl:=lX x
 have q:Ok (Sum.elim (fun b:ByteArray=>b.size≤1048576) Tr) (Am (Xy x) Al (⟨#[]⟩,0)):=by
  refine BF (fun v:ByteArray×Nat=>v.1.size≤v.2∧v.2≤x.size) (fun v:ByteArray×Nat=>x.size-v.2) ⟨by rw[sz0];omega,by omega⟩ (B1 (by omega)) fun v a=>?_
  obtain⟨v,i⟩:=v
  obtain⟨a,hi⟩:=a
  dsimp only at a hi
  dsimp only[Xy,bc,br,vz,vs,v2,AA,ln,Ai,ad,cl,wa,ss,BH,br,ib]
  (repeat' (first|with_reducible (first|refine AS (fun _=>?_) fun _=>?_|refine AM ?_|refine B0 ?_ fun _ _ _=>?_)|(with_reducible apply AO;(exact Ub _ (by omega));intro _ _)|with_reducible (first|refine uN ?_ ?_|refine AX ?_ ?_)))<;>exact A5
 dsimp only[jf,eh,eg,bA,br,vz,lr,lc,cl,BH,br]
 (repeat' (first|with_reducible (first|refine AS (fun _=>?_) fun _=>?_|refine AM ?_)|(with_reducible apply BT;(exact q);all_goals(intro _ _;try dsimp only))|(with_reducible apply AO;(exact Ub _ (by assumption));intro _ _)|with_reducible refine AX ?_ ?_))<;>exact Ck
set_option maxRecDepth 20000 in
theorem ZUQ(x:ByteArray)(h:x.size≤1048576):Ok (fun y=>y.1.size≤1048576∧y.2.size≤1048576) (jM x):=by
 have hl:=lX x
 have q:Ok (Sum.elim Tr (fun y:ByteArray×ByteArray=>y.1.size≤1048576∧y.2.size≤1048576)) (Am (X5 x) Al ((x.size:Int)-1)):=by
  refine BF (fun v:Int=>-1≤v∧v<x.size) (fun v:Int=>(v+1).toNat) ⟨by omega,by omega⟩ (B1 (by omega)) fun v hv=>?_
  dsimp only[X5,bK,br,vs,AA,ln,Ai,wi,ss,br,Sn]
  (repeat' (first|with_reducible (first|refine AS (fun _=>?_) fun _=>?_|refine AM ?_|refine B0 ?_ fun _ _ _=>?_|refine uN ?_ ?_|refine AX ?_ ?_)))<;>exact A5
 dsimp only[jM,fy,bS,ec,vz,vs,lr,lc,wi,BH]
 (repeat' (first|with_reducible (first|refine AS (fun _=>?_) fun _=>?_|refine AM ?_)|(with_reducible apply BT;(exact q);all_goals(intro _ _;try dsimp only))|with_reducible refine AX ?_ ?_))<;>exact A5
set_option maxRecDepth 20000 in
theorem qm(x:ByteArray)(h:x.size≤1048576):Ok Tr (jg x):=by
 have q:Ok Ts (Am TL Al (x,0)):=by
  refine BF (fun v:ByteArray×Nat=>v.1.size≤1048576∧v.2≤120) (fun v:ByteArray×Nat=>120-v.2) ⟨h,by omega⟩ (B1 (by omega)) fun v hv=>?_
  obtain⟨v,i⟩:=v
  obtain⟨hv,hi⟩:=hv
  dsimp only at hv hi
  dsimp only[TL,bU,br,vs,v2,AA,ln,Ai,cl,wa,br]
  (repeat' (first|with_reducible (first|refine AS (fun _=>?_) fun _=>?_|refine AM ?_)|(with_reducible apply AO;(exact ZUQ _ hv);intro _ _)|(with_reducible apply AO;(exact iN _);intro _ _)|with_reducible refine AX ?_ ?_))<;>exact A5
 dsimp only[jg,dG,ge,gq,br,lr,lc,cl,br]
 (repeat' (first|with_reducible (first|refine AS (fun _=>?_) fun _=>?_|refine AM ?_)|(with_reducible apply BT;(exact q);all_goals(intro _ _;try dsimp only))|(with_reducible apply AO;(exact ZVM _ h);intro _ _)|with_reducible refine AX ?_ ?_))<;>exact A5
set_option maxRecDepth 20000 in
theorem LV(x:ByteArray)(h:x.size≤1048576):Ok Tr (ji x):=by
 dsimp only[ji,dI,lr,cl,AP]
 (repeat' (first|with_reducible (first|refine AS (fun _=>?_) fun _=>?_|refine AM ?_)|(with_reducible apply AO;(exact Ub _ h);intro _ _)|(with_reducible apply AO;(exact iN _);intro _ _)|(with_reducible apply BB;(exact fun _=>Ub _ h);intro _)|(with_reducible apply BB;(exact fun _=>iN _);intro _)|with_reducible refine AX ?_ ?_))<;>exact A5
theorem o86(l:List ByteArray)(x:ByteArray)(h:l.length≤1048576):Ok Tr (PE l x):=by
 have q:Ok Ts (Am (NF l x) Al 0):=by
  refine BF (fun v:Nat=>v≤l.length) (fun v:Nat=>l.length-v) (by omega) (B1 (by omega)) fun v a=>?_
  dsimp only[NF,Zj,br,ix,vz,vs,AA,ln,Ai,wa,An,br]
  (repeat' (first|with_reducible (first|refine AS (fun _=>?_) fun _=>?_|refine AM ?_|refine B0 ?_ fun _ _ _=>?_|refine AX ?_ ?_)))<;>exact A5
 dsimp only[PE,XA,XL,XY,lr,lc]
 (repeat' (first|with_reducible (first|refine AS (fun _=>?_) fun _=>?_|refine AM ?_)|(with_reducible apply BT;(exact q);all_goals(intro _ _;try dsimp only))|with_reducible refine AX ?_ ?_))<;>exact A5
theorem qn(l:List Spn)(x:Int)(h:l.length≤1048576):Ok Tr (jl l x):=by
 have q:Ok Ts (Am (ZA l x) Al 0):=by
  refine BF (fun v:Nat=>v≤l.length) (fun v:Nat=>l.length-v) (by omega) (B1 (by omega)) fun v a=>?_
  dsimp only[ZA,dp,br,ix,A1,vz,vs,AA,ln,Ai,wa,An,br]
  (repeat' (first|with_reducible (first|refine AS (fun _=>?_) fun _=>?_|refine AM ?_|refine B0 ?_ fun _ _ _=>?_|refine Gy ?_ fun _=>?_|refine AX ?_ ?_)))<;>exact A5
 dsimp only[jl,dt,bX,gj,lr,lc]
 (repeat' (first|with_reducible (first|refine AS (fun _=>?_) fun _=>?_|refine AM ?_)|(with_reducible apply BT;(exact q);all_goals(intro _ _;try dsimp only))|with_reducible refine AX ?_ ?_))<;>exact A5
theorem Sq(s:Scm)(x:ByteArray)(h:SzS s):Ok (fun y:Int=>y<s.messages.length∧(0≤y→∃m∈s.messages,m.name=x)) (jh s x):=by
 have hm:=h.ml
 have q:Ok (Sum.elim Tr fun y:Int=>y<s.messages.length∧(0≤y→∃m∈s.messages,m.name=x)) (Am (Zq s x) Al 0):=by
  refine BF (fun v:Nat=>v≤s.messages.length) (fun v:Nat=>s.messages.length-v) (by omega) (B1 (by omega)) fun v a=>?_
  dsimp only[Zq,dQ,br,ix,vz,wg,vs,AA,ln,Ai,wa,An,br]
  (repeat' (first|with_reducible (first|refine AS (fun _=>?_) fun _=>?_|refine AM ?_|refine B0 ?_ fun _ _ _=>?_|refine AX ?_ ?_)))<;>first|exact⟨by omega,fun _=>⟨_,by assumption,Y4 (by assumption)⟩⟩|exact A5
 dsimp only[jh,dF,fd,cM,lr,lc]
 (repeat' (first|with_reducible (first|refine AS (fun _=>?_) fun _=>?_|refine AM ?_)|(with_reducible apply BT;(exact q);all_goals(intro _ _;try dsimp only))|with_reducible refine AX ?_ ?_))<;>first|exact⟨by omega,fun h=>absurd h (by decide)⟩|exact A5
theorem iR(s:Scm)(x:ByteArray)(h:SzS s):Ok (fun y:Int=>y<s.enums.length∧(0≤y→∃m∈s.enums,m.name=x)) (jn s x):=by
 have hm:=h.el
 have q:Ok (Sum.elim Tr fun y:Int=>y<s.enums.length∧(0≤y→∃m∈s.enums,m.name=x)) (Am (W6 s x) Al 0):=by
  refine BF (fun v:Nat=>v≤s.enums.length) (fun v:Nat=>s.enums.length-v) (by omega) (B1 (by omega)) fun v a=>?_
  dsimp only[W6,n3,br,ix,vz,wg,vs,AA,ln,Ai,wa,An,br]
  (repeat' (first|with_reducible (first|refine AS (fun _=>?_) fun _=>?_|refine AM ?_|refine B0 ?_ fun _ _ _=>?_|refine AX ?_ ?_)))<;>first|exact⟨by omega,fun _=>⟨_,by assumption,Y4 (by assumption)⟩⟩|exact A5
 dsimp only[jn,oB,nk,mq,lr,lc]
 (repeat' (first|with_reducible (first|refine AS (fun _=>?_) fun _=>?_|refine AM ?_)|(with_reducible apply BT;(exact q);all_goals(intro _ _;try dsimp only))|with_reducible refine AX ?_ ?_))<;>first|exact⟨by omega,fun h=>absurd h (by decide)⟩|exact A5
theorem UN(v w:Val)(h:SzV v)(k:SzV w):Ok Tr (jq v w):=by
 obtain⟨_,_,_,_,_⟩:=h
 obtain⟨_,_,_,_,_⟩:=k
 dsimp only[jq,pq,vy,wg,vg,lr,wa,An]
 (repeat' (first|with_reducible (first|refine AS (fun _=>?_) fun _=>?_|refine AM ?_|refine AX ?_ ?_)))<;>exact A5
def rc(v:Val):Prop:=v.list=[]∧v.pairs=[]∧v.slots=[]∧v.raws=[]∧(v.kind=7∨v.kind=8→v.bits=0)∧(¬(v.kind=7∨v.kind=8)→v.text=⟨#[]⟩)
def Ot(n:Int)(v:Val):Prop:=1≤n∧n≤9∧v.kind=n∧rc v
theorem ZSh{n:Int}{v:Val}(h:SzV v)(e:Jw n v=some true):Ot n v:=by
 obtain⟨p,q,r,s,t⟩:=h
 have k:v.list.length<4611686018427387904:=by omega
 have l:v.pairs.length<4611686018427387904:=by omega
 have m:v.slots.length<4611686018427387904:=by omega
 have o:v.raws.length<4611686018427387904:=by omega
 have hi:MP n=some (decide (1≤n)&&decide (n≤9)):=rfl
 dsimp only[Jw,QZ,br,vz,vy,wg,lr,cl,AP,BH,br,Py,WT,vz,vy,wg,lr,An,MH,Qy,lr]at e
 rw[hi]at e
 unfold Ot rc
 simp only[Yc]at e
 generalize ML v.text=w at e
 simp[k,l,m,o]at e
 split at e
 ·cases e
 ·rename_i c
  simp only[not_or,Decidable.not_not,Classical.not_imp,Int.not_lt]at c
  obtain⟨⟨⟨d,f⟩,b⟩,⟨⟨g,i⟩,j⟩,c6⟩:=c
  refine⟨d,f,b,g,i,j,c6,fun a=>?_,fun a=>?_⟩
  ·rw[b]at a
   simp only[a,Yv]at e
   split at e<;>simp_all
  ·rw[b]at a
   simp only[a,YR]at e
   split at e<;>simp_all
theorem U5(n:Int)(v:Val)(h:SzV v):Ok (fun b=>b=true→Ot n v) (Jw n v):=by
 have a:=h.t
 have q:Ok Tr (Jw n v):=by
  have c:Ok Tr (MP n):=⟨_,rfl,trivial⟩
  dsimp only[Jw,QZ,br,vz,vy,wg,lr,cl,AP,BH,br]
  (repeat' (first|with_reducible (first|refine AS (fun _=>?_) fun _=>?_|refine AM ?_)|(with_reducible apply AO;(exact c);intro _ _)|(with_reducible apply AO;(exact yh _);intro _ _)|(with_reducible apply AO;(exact yj _);intro _ _)|(with_reducible apply AO;(exact qo _ a);intro _ _)|(with_reducible apply BB;(exact fun _=>c);intro _)|(with_reducible apply BB;(exact fun _=>yh _);intro _)|(with_reducible apply BB;(exact fun _=>yj _);intro _)|(with_reducible apply BB;(exact fun _=>qo _ a);intro _)|with_reducible refine AX ?_ ?_))<;>exact A5
 obtain⟨b,e,_⟩:=q
 exact⟨b,e,fun d=>ZSh h (d▸e)⟩
theorem xG(v:Val)(h:SzV v):Ok SzV (PB v):=by
 dsimp only[PB,TK,br,wg,lr,AP,br]
 (repeat' (first|with_reducible (first|refine AS (fun _=>?_) fun _=>?_|refine AM ?_)|(with_reducible apply AO;(exact ym _);intro _ _)|(with_reducible apply BB;(exact fun _=>ym _);intro _)|with_reducible refine AX ?_ ?_))<;>first|exact h|exact⟨h.t,h.l,h.p,h.s,h.r⟩
theorem ZUW(x:Nt)(h:SzN x):Ok Tr (jL x):=by
 dsimp only[jL,pd,wg,lr,cl,AP]
 (repeat' (first|with_reducible (first|refine AS (fun _=>?_) fun _=>?_|refine AM ?_)|(with_reducible apply AO;(exact iT _);intro _ _)|(with_reducible apply AO;(exact U5 _ _ h.v);intro _ _)|(with_reducible apply BB;(exact fun _=>iT _);intro _)|(with_reducible apply BB;(exact fun _=>U5 _ _ h.v);intro _)|with_reducible refine AX ?_ ?_))<;>exact A5
theorem ZVc(l:List Nt)(n:Int)(h:HX l):Ok Tr (jU l n):=by
 obtain⟨b,a⟩:=h
 have q:Ok Ts (Am (W5 l n) Al 0):=by
  refine BF (fun v:Nat=>v≤l.length) (fun v:Nat=>l.length-v) (by omega) (B1 (by omega)) fun v c=>?_
  dsimp only[W5,m6,br,ix,A1,vz,vs,vg,AA,ln,Ai,cl,wa,wi,An,br]
  (repeat' (first|with_reducible (first|refine AS (fun _=>?_) fun _=>?_|refine AM ?_|refine B0 ?_ fun _ _ _=>?_)|(with_reducible apply AO;(exact iT _);intro _ _)|(with_reducible apply AO;(exact ZVa _ _);intro _ _)|(with_reducible apply AO;(exact ZUW _ (a _ (by assumption)));intro _ _)|with_reducible (first|refine Gy ?_ fun _=>?_|refine AX ?_ ?_)))<;>exact A5
 dsimp only[jU,oK,pN,my,br,vz,lr,lc,An,br]
 (repeat' (first|with_reducible (first|refine AS (fun _=>?_) fun _=>?_|refine AM ?_)|(with_reducible apply BT;(exact q);all_goals(intro _ _;try dsimp only))|with_reducible refine AX ?_ ?_))<;>exact A5
end Go.Proofs.YtjbijbkdiijhaaaGreat
