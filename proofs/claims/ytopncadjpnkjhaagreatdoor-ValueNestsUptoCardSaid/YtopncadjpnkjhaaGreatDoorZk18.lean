import Derived.Test.YtopncadjpnkjhaaGreatDoorZk08
import Derived.Test.YtopncadjpnkjhaaGreatDoorRows
import Derived.WalkKit
import Derived.ProofKit
import Derived.OpenShut
import Derived.Carry
import Derived.Deep.DeepHandedRow
import Derived.Test.YtopncadjpnkjhaaGreatDoorZk10
import Derived.Test.YtopncadjpnkjhaaGreatDoorZk17
import Derived.Test.YtopncadjpnkjhaaGreatDoorZk00
namespace Go.Proofs.YtopncadjpnkjhaaGreatDoor
set_option linter.all false
open Go Go.Eng Go.ChangeShapes Go.WideShapes Go.ChangeAt Go.RowKit
theorem dZ{H:Type}(b:List UInt8):Rows.uptoBulk (DataW.lit (H:=H) (.string b))=b.length+1:=by simp only[Rows.uptoBulk]
theorem pL{H:Type}(a b:List (DataW H)):Rows.uptoBulk (.slice a b)=Rows.uptoBulkAll a+Rows.uptoBulkAll b+1:=by simp only[Rows.uptoBulk]
theorem rP{H:Type}(a:List (DataW H)):Rows.uptoBulk (.agg a)=Rows.uptoBulkAll a+1:=by simp only[Rows.uptoBulk]
def GY(W:World)(ds:List D)(cs:List Value)(o:Nat):Prop:=∀(i:Nat) (d:D),ds[i]?=some d→∃c,cs[o+i]?=some c∧RepD W (· <W.heap.size) d c
def H2(W:World)(ds:List D)(cs:List Value):Prop:=ds.length=cs.length∧GY W ds cs 0
theorem GY.app{W:World}{ds a:List D}{cs:List Value}{o:Nat}(h:GY W ds cs o)(k:GY W a cs (o+ds.length)):GY W (ds++a) cs o:=fun i d hi=>by
 rcases Yt i ds.length with hl|hl
 ·rw[Yn hl]at hi;exact h i d hi
 ·rw[Ys hl]at hi
  obtain⟨c,b,e⟩:=k _ d hi
  grind
theorem GY.nil{W:World}{cs:List Value}{o:Nat}:GY W [] cs o:=fun i d h=>by simp at h
theorem H2.at{W:World}{ds:List D}{cs:List Value}{o k:Nat}(h:H2 W ds ((cs.drop o).take k)):GY W ds cs o:=fun i d hi=>by
 obtain⟨c,a,b⟩:=h.2 i d hi
 grind
def rk(k:IntKind)(n:Int):Nat:=if Lit.wf (.int k n)=true then 0 else 1000000000000
theorem lY{k:IntKind}{n:Int}(h:rk k n≤1048576):k.min≤n∧n≤k.max:=by
 unfold rk at h
 split at h
 ·rename_i a
  unfold Lit.wf at a
  rw[Yb]at a
  exact⟨Y4 a.1,Y4 a.2⟩
 ·omega
mutual
def bk:D→Nat
 |.int k n=>rk k n
 |.bool _=>0
 |.str s=>s.size
 |.list a=>Bk a
 |.map _ a=>Bk a
def Ao:List D→Nat
 |[]=>0
 |d::l=>bk d+Ao l
def Bk:List (List D)→Nat
 |[]=>0
 |e::l=>Ao e+1+Bk l
end
theorem Lw:∀a b:List D,Ao (a++b)=Ao a+Ao b
 |[],b=>by rw[FL,Ao,YH]
 |d::a,b=>by rw[GJ,Ao,Ao,Lw a b,Yv]
theorem Vl(d:D):Ao [d]=bk d:=by rw[Ao,Ao,Ey]
theorem B1{α:Type}{e:α→List D}:∀l:List α,l.length≤Bk (l.map e)
 |[]=>DP _
 |x::l=>by have:=B1 (e:=e) l;rw[Y1,Bk,Ew];omega
theorem CH{α:Type}{e:α→List D}{x:α}:∀{l:List α},x∈l→Ao (e x)+1≤Bk (l.map e)
 |y::l,h=>by
  rw[Y1,Bk]
  cases YF.1 h with
  |inl h=>subst h;omega
  |inr h=>have:=CH (e:=e) h;omega
section
variable {H:Type} (enc:TypeId×Value→H) (P:Program) (W:World)
def BJ{α:Type}(n:Nat)(t:TypeId)(e:α→List D):Prop:=
 ∀cs x,DataW.trod enc P W 0 (fun _=>true) true n t cs=some x→∃v:α,H2 W (e v) cs∧Ao (e v)+1≤Rows.uptoBulk x.1
end
section
variable {H:Type} {enc:TypeId×Value→H} {P:Program} {W:World} {n:Nat} {t:TypeId}
theorem U2(d:DataW H):1≤Rows.uptoBulk d:=by cases d<;>(try (rename_i l;cases l))<;>simp[Rows.uptoBulk]
theorem Lq{d:D}{c:Value}(h:RepD W (· <W.heap.size) d c):H2 W [d] [c]:=⟨rfl,fun i d' hi=>by
 cases i with
 |zero=>cases hi;exact⟨c,rfl,h⟩
 |succ i=>simp at hi⟩
theorem Dv{k:IntKind}(a:P.underlying t=some (.int k)):BJ enc P W n t (fun v:Int=>[.int k v]):=fun cs x c=>by
 obtain⟨m,rfl,rfl,b⟩:=DataW.trod_int a c
 refine⟨m,Lq (.int _ _),?_⟩
 rw[Vl,bk,rk,Yj b]
 exact U2 _
theorem fw(a:P.underlying t=some .bool):BJ enc P W n t (fun v:Bool=>[.bool v]):=fun cs x b=>by
 obtain⟨m,rfl,rfl⟩:=DataW.trod_bool a b
 exact⟨m,Lq (.bool _),U2 _⟩
theorem Du(a:P.underlying t=some .string):BJ enc P W n t (fun v:ByteArray=>[.str v]):=fun cs x b=>by
 obtain⟨m,rfl,rfl,_⟩:=DataW.trod_string a b
 refine⟨m,Lq (.str _),?_⟩
 rw[dZ,Vl]
 exact Yg _
theorem hM{α:Type}{e:α→List D}:∀(l:List α) (xs:List (DataW H×List MemPlace)),l.length=xs.length→(∀(i:Nat) (v:α),l[i]?=some v→∃y:DataW H×List MemPlace,xs[i]?=some y∧Ao (e v)+1≤Rows.uptoBulk y.1)→Bk (l.map e)≤Rows.uptoBulkAll (xs.map (·.1))
 |[],_,_,_=>DP _
 |x::l,[],h,_=>by cases h
 |x::l,y::xs,h,k=>by
  have:=hM l xs (Rl h) (fun i v hi=>k (i+1) v hi)
  obtain⟨c,a,b⟩:=k 0 x rfl
  cases a
  rw[Y1,Y1,Bk]
  simp only[Rows.uptoBulkAll]
  omega
theorem eY{α:Type}{Q:Nat→α→Prop}:∀(len:Nat),(∀i,i<len→∃v,Q i v)→∃l:List α,l.length=len∧∀i v,l[i]?=some v→Q i v
 |0,_=>⟨[],rfl,fun i v h=>by simp at h⟩
 |len+1,h=>by
  obtain⟨l,a,b⟩:=eY len (fun i hi=>h i (by omega))
  obtain⟨v,c⟩:=h len (by omega)
  refine⟨l++[v],by simp[a],fun i w hi=>?_⟩
  grind
theorem Cr{α:Type}{e:TypeId}{b:α→List D}{sz:Nat}(X:P.underlying t=some (.slice e))(E:P.cellsOf e=sz)(V:sz≠0)(hl:∀x,(b x).length=sz)(h:∀m,m<n→BJ enc P W m e b):
  BJ enc P W n t (fun l:List α=>[.list (l.map b)]):=fun cs x Y=>by
 rcases DataW.trod_slice X Y with⟨rfl,rfl⟩|⟨a,len,cap,g,J,m,rfl,rfl,rfl,hb,z,T,U,hi,_,_⟩
 ·exact⟨[],Lq .nil,U2 _⟩
 ·have k:∀i,i<len→∃v:α,∃y f,g[i]?=some y∧W.cells? 0 (a.add (i*sz)) sz=some f∧H2 W (b v) f∧Ao (b v)+1≤Rows.uptoBulk y.1:=fun i B=>by
   have I:=hi i B
   rw[Yc (by omega),E]at I
   obtain⟨f,N,O⟩:=XR.1 I
   obtain⟨v,Q,R⟩:=h m (by omega) f _ O
   exact⟨v,_,f,Yc (by omega),N,Q,R⟩
  obtain⟨l,A,r⟩:=eY len k
  have cell:∀(i j:Nat) (e':List D) (x:D),(l.map b)[i]?=some e'→e'[j]?=some x→∃c,W.cell? (a.add (i*sz+j))=some c∧RepD W (· <W.heap.size) x c:=fun i j e' x d o=>by
   rw[YE]at d
   cases s:l[i]? with
   |none=>rw[s]at d;cases d
   |some v=>
    rw[s]at d
    cases d
    obtain⟨y,f,p,q,F,G⟩:=r i v s
    obtain⟨c,H,K⟩:=F.2 j x o
    rw[YH]at H
    obtain⟨_,Z,L⟩:=World.cells?_some q
    have u:j<sz:=by
     rw[←hl v]
     rcases Yt j (b v).length with h|h
     ·exact h
     ·rw[YD h]at o;cases o
    refine⟨c,?_,K⟩
    rw[←Go.Eng.add_add,L j u,H]
  refine⟨l,Lq ?_,?_⟩
  ·have hlen:(l.map b).length=len:=by simp[A]
   have:=RepD.list (w:=W) (S:=(· <W.heap.size)) (l.map b) a sz cap (fun i j=>(W.cell? (a.add (i*sz+j))).getD undef) (fun C=>by
     have M:0<len:=by
      rcases M4 len with h|h
      ·exact absurd (Y5 (hlen.trans h)) C
      ·exact h
     obtain⟨v,y,f,_,q,_⟩:=k 0 M
     have:=World.cells?_block q (by omega)
     rw[KZ]at this
     rw[←Go.Eng.block_add a 0];exact this)
    (by rw[hlen];exact z) (fun e' he=>by obtain⟨y,_,rfl⟩:=YQ.1 he;exact hl y)
    (fun i j e' x d o=>by obtain⟨c,p,_⟩:=cell i j e' x d o;rw[p];rfl)
    (fun i j e' x d o=>by obtain⟨c,p,q⟩:=cell i j e' x d o;rw[p];exact q)
   rw[hlen]at this
   exact this
  ·rw[pL,Vl,bk]
   have:=hM (e:=b) l g (by omega) (fun i v s=>by
    obtain⟨y,f,p,q,F,G⟩:=r i v s
    exact⟨y,p,G⟩)
   omega
def FB(xs:List (DataW H×List MemPlace))(i:Nat):Nat:=Rows.uptoBulkAll ((xs.drop i).map (·.1))
theorem A5{xs:List (DataW H×List MemPlace)}{i:Nat}{a b:List D}(h:Ao a+1+FB xs (i+1)≤FB xs i)(k:Ao b≤FB xs (i+1)):Ao (a++b)≤FB xs i:=by
 rw[Lw];omega
theorem Dt{xs:List (DataW H×List MemPlace)}{i:Nat}{a:List D}(h:Ao a+1+FB xs (i+1)≤FB xs i):Ao a≤FB xs i:=by omega
theorem Dw{xs:List (DataW H×List MemPlace)}{a:List D}(h:Ao a≤FB xs 0):Ao a+1≤Rows.uptoBulk (.agg (xs.map (·.1))):=by
 rw[rP];exact Nat.succ_le_succ h
theorem qI{α:Type}{e:α→List D}{m i:Nat}{c:TypeId}{a:List Value}{xs:List (DataW H×List MemPlace)}(h:BJ enc P W m c e)(b:DataW.trod enc P W 0 (fun _=>true) true m c a=xs[i]?)(hi:i<xs.length):
  ∃v,H2 W (e v) a∧Ao (e v)+1+FB xs (i+1)≤FB xs i:=by
 rw[Yc hi]at b
 obtain⟨v,d,f⟩:=h _ _ b
 refine⟨v,d,?_⟩
 unfold FB
 rw[HK hi,Y1]
 simp only[Rows.uptoBulkAll]
 omega
theorem rf{α:Type}{e:α→List D}{m i k:Nat}{b:TypeId}{a:List Value}{xs:List (DataW H×List MemPlace)}(h:BJ enc P W m b e)(c:DataW.trod enc P W 0 (fun _=>true) true m b a=xs[i]?)(d:xs.length=k)(hi:Nat.blt i k=true:=by kernel_rfl):
  ∃v,H2 W (e v) a∧Ao (e v)+1+FB xs (i+1)≤FB xs i:=qI h c (by rw[d];exact Yd hi)
theorem VX{α:Type}{e e':α→List D}(he:∀x,e x=e' x)(h:BJ enc P W n t e'):BJ enc P W n t e:=fun cs x a=>by
 obtain⟨v,b,c⟩:=h cs x a
 grind
theorem fu{α:Type}{e:α→List D}{q:Array Field}{r:Reach}{b:Nat}{v:Value}{d:DataW H}{p:List MemPlace}(rd:∀n,BJ enc P W n t e)(w:P.underlying t=some (.struct q))(z:Value.okWide P W r b t v)
  (h:DataW.Trod enc P W 0 (fun _=>true) true t v d p):∃x:α,(∀m l,RepA W (· <W.heap.size) (fun _=>⟨0,false,0,0,[]⟩) m l (.agg ((e x).map .d)) v)∧Ao (e x)+1≤Rows.uptoBulk d:=by
 obtain⟨cs,rfl,_⟩:=okWide_struct w z
 obtain⟨n,u⟩:=h
 obtain⟨x,k,s⟩:=rd n _ _ u
 have hl:(e x).length=cs.size:=by rw[k.1];simp[Value.cells]
 have key:∀(i:Nat) (c:Value),cs[i]?=some c→∃d,(e x)[i]?=some d∧RepD W (· <W.heap.size) d c:=fun i c f=>by
  have g:i<(e x).length:=by
   grind
  obtain⟨j,a,o⟩:=k.2 i _ (Yc g)
  have:j=c:=by
   rw[YH]at a
   have:cs.toList[i]?=some j:=a
   grind
  grind
 refine⟨x,fun m l=>.agg _ _ (by rw[Yz,hl]) (fun i c f=>?_) (fun i y c hy f=>?_),s⟩
 ·obtain⟨d,_,a⟩:=key i c f;exact a.one
 ·obtain⟨d,a,o⟩:=key i c f
  rw[YE,a]at hy
  cases hy
  exact .d _ _ o
theorem tf{r:Reach}{a:Nat}{v:Value}{d:DataW H}{p:List MemPlace}(e:P.underlying t=some .string)(g:Value.okWide P W r a t v)(h:DataW.Trod enc P W 0 (fun _=>true) true t v d p):
  ∃x:ByteArray,(∀S Hp m l,RepA W S Hp m l (.d (.str x)) v)∧x.size+1≤Rows.uptoBulk d:=by
 obtain⟨x,rfl⟩:=okWide_string e g
 obtain⟨n,f⟩:=h
 obtain⟨s,b,c,_⟩:=DataW.trod_string e f
 have b:x=s:=by simpa[Value.cells]using b
 subst b
 have c:d=.lit (.string x.data.toList):=congrArg Prod.fst c
 subst c
 refine⟨x,fun _ _ _ _=>.d _ _ (.str _),?_⟩
 rw[dZ]
 exact Yg _
def XH:Hp:=fun _=>⟨0,false,0,0,[]⟩
theorem wP(m:Mu):Ok 0 XH m (· <W.heap.size) W:=⟨fun _ h=>h,fun _ _ h=>(by cases h),fun _ _ h=>(by cases h),fun _ _ _ _ h=>(by cases h),fun _ _ h=>(by cases h),⟨fun _ _ h=>(by cases h),fun _ _ h=>(by cases h),fun _ _ _ _ h=>(by cases h)⟩⟩
def bp(w:World)(S:Nat→Prop)(Hp:Hp)(m:Mu)(l:Nat):List AV→List Value→Prop
 |[],[]=>True
 |x::xs,v::vs=>RepA w S Hp m l x v∧bp w S Hp m l xs vs
 |_,_=>False
theorem uM{w:World}{S:Nat→Prop}{Hp:Hp}{m:Mu}{l:Nat}{xs:List AV}{vs:List Value}(h:bp w S Hp m l xs vs):HX w S Hp m l xs vs.toArray:=by
 suffices b:xs.length=vs.length∧∀(i:Nat) (x:AV) (v:Value),xs[i]?=some x→vs[i]?=some v→RepA w S Hp m l x v by
  exact⟨by simpa using b.1,fun i x v f e=>b.2 i x v f (by simpa using e)⟩
 induction xs generalizing vs with
 |nil=>cases vs with
  |nil=>exact⟨rfl,fun i x v h=>by simp at h⟩
  |cons _ _=>exact h.elim
 |cons x xs g=>cases vs with
  |nil=>exact h.elim
  |cons v vs=>
   obtain⟨c,d⟩:=g h.2
   refine⟨by simp[c],fun i y u hy a=>?_⟩
   cases i with
   |zero=>simp at hy a;subst hy;subst a;exact h.1
   |succ i=>exact d i y u (by simpa using hy) (by simpa using a)
theorem qA{f:Func}{s:ChangeSpec}{r:World}{args:Array Value}{ds A:List (DataW H)}{e:List MemPlace}{u:TypeId}(C:DataW.Whole enc P f.params.toList s.vars false W args.toList ds A e)(c:s.vars=[])
  (k:laidOutB P=true) (z:∀t∈f.params.toList,P.readableRec t=true∧t<P.types.size) (g:f.resultTypes.toList=[u]) (L:P.underlying u=some .bool)
  (j:s.fn H (ds++A)={results:=[.lit (.bool true)],args:=ds }) (n:Below W.heap.size W r):s.post enc P f false true false false W args (.bool true) r:=by
 obtain⟨p,q,G,B,rfl,I,J⟩:=id C
 rw[c]at B
 obtain⟨rfl,rfl⟩:=trodVars_none B
 refine⟨ds,[],p++[],[],p,[],C,?_,?_,?_,?_,fun h=>by cases h⟩
 ·rw[j,g]
  have:(Value.bool true).resultList f.resultTypes.size=[.bool true]:=by
   have:f.resultTypes.size=1:=by rw[←Y6,g];rfl
   rw[this];rfl
  rw[this]
  exact trodAll_cons_mk (shut_bool L _) trodAll_mk0
 ·rw[j]
  have key:∀(l:List TypeId) (vs:List Value) (m:List (DataW H)) (ps:List MemPlace),(∀t∈l,P.readableRec t=true∧t<P.types.size)→DataW.TrodAll enc P W 0 (fun _=>true) true l vs m ps→
    DataW.TrodAll enc P r 0 (fun b=>decide (b<W.heap.size)) true l vs m ps:=by
   intro l
   induction l with
   |nil=>intro vs m ps _ h;obtain⟨rfl,rfl,rfl⟩:=trodAll_nil h;exact trodAll_mk0
   |cons t l N=>
    intro vs m ps y h
    have w:=DataW.TrodAll.lt h
    obtain⟨v,O,d,D,a,b,rfl,rfl,rfl,E,F⟩:=trodAll_cons h
    exact trodAll_cons_mk (Below.trod k (y t (by simp)).1 (y t (by simp)).2 E n (fun x M=>w x (HO _ M))) (N _ _ _ (fun t K=>y t (by simp[K])) F)
  exact key _ _ _ _ z G
 ·rw[c,j];exact rfl
 ·refine⟨n.os,n.output,fun i hi=>?_⟩
  rw[n.block i hi]
  cases W.heap[i]? with
  |none=>rfl
  |some o=>cases o<;>simp
end
end Go.Proofs.YtopncadjpnkjhaaGreatDoor
namespace Go.Proofs.YtopncadjpnkjhaaGreatDoor
set_option linter.all false
open Go Go.Eng
section
variable {H:Type} {enc:TypeId×Value→H} {W:World}
set_option maxRecDepth 100000
theorem ww(n:Nat):BJ enc Tryz.prog W n 89 A3:=fun cs x h=>by
 obtain⟨xs,m,rfl,rfl,c,a,b⟩:=DataW.trod_struct Tryz.underlying89 h
 obtain⟨v0,i,d⟩:=rf (Dv Tryz.underlying3) (b 0 _ rfl) a
 obtain⟨o,j,e⟩:=rf (Dv Tryz.underlying3) (b 1 _ rfl) a
 obtain⟨v2,k,f⟩:=rf (Dv Tryz.underlying27) (b 2 _ rfl) a
 obtain⟨v3,l,g⟩:=rf (Du Tryz.underlying9) (b 3 _ rfl) a
 have q:=Dw (A5 d (A5 e (A5 f (Dt g))))
 exact⟨.mk v0 o v2 v3,⟨by rw[c];kernel_rfl,(i.at.app (j.at.app (k.at.app l.at)))⟩,q⟩
theorem sf(n:Nat)(h:∀k,k<n→BJ enc Tryz.prog W k 33 Ai):BJ enc Tryz.prog W n 57 B6:=fun cs x f=>by
 obtain⟨xs,m,rfl,rfl,b,a,c⟩:=DataW.trod_struct Tryz.underlying57 f
 obtain⟨v0,g,d⟩:=rf (h m (by omega)) (c 0 _ rfl) a
 obtain⟨j,i,e⟩:=rf (h m (by omega)) (c 1 _ rfl) a
 have q:=Dw (A5 d (Dt e))
 exact⟨.mk v0 j,⟨by rw[b];kernel_rfl,(g.at.app i.at)⟩,q⟩
theorem qu(n:Nat)(h:∀k,k<n→BJ enc Tryz.prog W k 33 Ai):BJ enc Tryz.prog W n 51 Bl:=fun cs x f=>by
 obtain⟨xs,m,rfl,rfl,b,a,c⟩:=DataW.trod_struct Tryz.underlying51 f
 obtain⟨v0,g,d⟩:=rf (Dv Tryz.underlying3) (c 0 _ rfl) a
 obtain⟨j,i,e⟩:=rf (h m (by omega)) (c 1 _ rfl) a
 have q:=Dw (A5 d (Dt e))
 exact⟨.mk v0 j,⟨by rw[b];kernel_rfl,(g.at.app i.at)⟩,q⟩
theorem V3(n:Nat):BJ enc Tryz.prog W n 33 Ai:=by
 induction n using Nat.strongRecOn with
 |ind n e=>
 intro cs x s
 obtain⟨xs,m,rfl,rfl,c,a,b⟩:=DataW.trod_struct Tryz.underlying33 s
 obtain⟨v0,t,f⟩:=rf (Dv Tryz.underlying3) (b 0 _ rfl) a
 obtain⟨B,u,g⟩:=rf (Dv Tryz.underlying27) (b 1 _ rfl) a
 obtain⟨v2,v,h⟩:=rf (Du Tryz.underlying9) (b 2 _ rfl) a
 obtain⟨v3,w,i⟩:=rf (Cr Tryz.underlying28 (by kernel_rfl:Tryz.prog.cellsOf 33=7) (by decide) (fun x=>by rw[FW];rfl) (fun k d=>(VX FW (e k (by omega))))) (b 3 _ rfl) a
 obtain⟨v4,y,l⟩:=rf (Cr Tryz.underlying29 (by kernel_rfl:Tryz.prog.cellsOf 57=14) (by decide) (fun x=>by rw[Jl];rfl) (fun k d=>(VX Jl (sf k (fun j r=>e j (by omega)))))) (b 4 _ rfl) a
 obtain⟨v5,z,o⟩:=rf (Cr Tryz.underlying30 (by kernel_rfl:Tryz.prog.cellsOf 51=8) (by decide) (fun x=>by rw[Je];rfl) (fun k d=>(VX Je (qu k (fun j r=>e j (by omega)))))) (b 5 _ rfl) a
 obtain⟨C,A,p⟩:=rf (Cr Tryz.underlying31 (by kernel_rfl:Tryz.prog.cellsOf 89=4) (by decide) (fun _=>rfl) (fun k d=>(ww k))) (b 6 _ rfl) a
 have q:=Dw (A5 f (A5 g (A5 h (A5 i (A5 l (A5 o (Dt p)))))))
 exact⟨.mk v0 B v2 v3 v4 v5 C,⟨by rw[c];kernel_rfl,(t.at.app (u.at.app (v.at.app (w.at.app (y.at.app (z.at.app A.at))))))⟩,q⟩
theorem wh(n:Nat):BJ enc Tryz.prog W n 40 De:=fun cs x f=>by
 obtain⟨xs,m,rfl,rfl,b,a,c⟩:=DataW.trod_struct Tryz.underlying40 f
 obtain⟨v0,g,d⟩:=rf (Dv Tryz.underlying3) (c 0 _ rfl) a
 obtain⟨i,h,e⟩:=rf (Du Tryz.underlying9) (c 1 _ rfl) a
 have q:=Dw (A5 d (Dt e))
 exact⟨.mk v0 i,⟨by rw[b];kernel_rfl,(g.at.app h.at)⟩,q⟩
theorem Js(n:Nat):BJ enc Tryz.prog W n 209 BD:=fun cs x f=>by
 obtain⟨xs,m,rfl,rfl,b,a,c⟩:=DataW.trod_struct Tryz.underlying209 f
 obtain⟨v0,g,d⟩:=rf (Du Tryz.underlying9) (c 0 _ rfl) a
 obtain⟨i,h,e⟩:=rf (V3 m) (c 1 _ rfl) a
 have q:=Dw (A5 d (Dt e))
 exact⟨.mk v0 i,⟨by rw[b];kernel_rfl,(g.at.app h.at)⟩,q⟩
theorem k9(n:Nat):BJ enc Tryz.prog W n 53 Am:=fun cs x p=>by
 obtain⟨xs,m,rfl,rfl,c,a,b⟩:=DataW.trod_struct Tryz.underlying53 p
 obtain⟨v0,r,d⟩:=rf (Dv Tryz.underlying3) (b 0 _ rfl) a
 obtain⟨B,s,e⟩:=rf (Du Tryz.underlying9) (b 1 _ rfl) a
 obtain⟨v2,t,f⟩:=rf (Dv Tryz.underlying3) (b 2 _ rfl) a
 obtain⟨v3,u,g⟩:=rf (Dv Tryz.underlying3) (b 3 _ rfl) a
 obtain⟨v4,v,h⟩:=rf (wh m) (b 4 _ rfl) a
 obtain⟨v5,w,i⟩:=rf (Du Tryz.underlying9) (b 5 _ rfl) a
 obtain⟨C,y,j⟩:=rf (fw Tryz.underlying4) (b 6 _ rfl) a
 obtain⟨D,z,l⟩:=rf (V3 m) (b 7 _ rfl) a
 obtain⟨E,A,o⟩:=rf (Cr Tryz.underlying45 (by kernel_rfl:Tryz.prog.cellsOf 209=8) (by decide) (fun _=>rfl) (fun k F=>(Js k))) (b 8 _ rfl) a
 have q:=Dw (A5 d (A5 e (A5 f (A5 g (A5 h (A5 i (A5 j (A5 l (Dt o)))))))))
 exact⟨.mk v0 B v2 v3 v4 v5 C D E,⟨by rw[c];kernel_rfl,(r.at.app (s.at.app (t.at.app (u.at.app (v.at.app (w.at.app (y.at.app (z.at.app A.at))))))))⟩,q⟩
theorem g7(n:Nat):BJ enc Tryz.prog W n 182 BY:=fun cs x f=>by
 obtain⟨xs,m,rfl,rfl,b,a,c⟩:=DataW.trod_struct Tryz.underlying182 f
 obtain⟨v0,g,d⟩:=rf (Dv Tryz.underlying3) (c 0 _ rfl) a
 obtain⟨i,h,e⟩:=rf (Dv Tryz.underlying3) (c 1 _ rfl) a
 have q:=Dw (A5 d (Dt e))
 exact⟨.mk v0 i,⟨by rw[b];kernel_rfl,(g.at.app h.at)⟩,q⟩
theorem vD(n:Nat):BJ enc Tryz.prog W n 47 AG:=fun cs x j=>by
 obtain⟨xs,m,rfl,rfl,c,a,b⟩:=DataW.trod_struct Tryz.underlying47 j
 obtain⟨v0,l,e⟩:=rf (Du Tryz.underlying9) (b 0 _ rfl) a
 obtain⟨t,o,f⟩:=rf (Cr Tryz.underlying42 (by kernel_rfl:Tryz.prog.cellsOf 53=16) (by decide) (fun _=>rfl) (fun k d=>(k9 k))) (b 1 _ rfl) a
 obtain⟨v2,p,g⟩:=rf (Cr Tryz.underlying43 (by kernel_rfl:Tryz.prog.cellsOf 182=2) (by decide) (fun _=>rfl) (fun k d=>(g7 k))) (b 2 _ rfl) a
 obtain⟨v3,r,h⟩:=rf (Cr Tryz.underlying44 (by kernel_rfl:Tryz.prog.cellsOf 9=1) (by decide) (fun _=>rfl) (fun k d=>(Du Tryz.underlying9))) (b 3 _ rfl) a
 obtain⟨v4,s,i⟩:=rf (Cr Tryz.underlying45 (by kernel_rfl:Tryz.prog.cellsOf 209=8) (by decide) (fun _=>rfl) (fun k d=>(Js k))) (b 4 _ rfl) a
 have q:=Dw (A5 e (A5 f (A5 g (A5 h (Dt i)))))
 exact⟨.mk v0 t v2 v3 v4,⟨by rw[c];kernel_rfl,(l.at.app (o.at.app (p.at.app (r.at.app s.at))))⟩,q⟩
theorem vR(n:Nat):BJ enc Tryz.prog W n 134 Cc:=fun cs x g=>by
 obtain⟨xs,m,rfl,rfl,b,a,c⟩:=DataW.trod_struct Tryz.underlying134 g
 obtain⟨v0,h,d⟩:=rf (Du Tryz.underlying9) (c 0 _ rfl) a
 obtain⟨l,i,e⟩:=rf (Dv Tryz.underlying3) (c 1 _ rfl) a
 obtain⟨v2,j,f⟩:=rf (Cr Tryz.underlying45 (by kernel_rfl:Tryz.prog.cellsOf 209=8) (by decide) (fun _=>rfl) (fun k o=>(Js k))) (c 2 _ rfl) a
 have q:=Dw (A5 d (A5 e (Dt f)))
 exact⟨.mk v0 l v2,⟨by rw[b];kernel_rfl,(h.at.app (i.at.app j.at))⟩,q⟩
theorem vm(n:Nat):BJ enc Tryz.prog W n 68 Bs:=fun cs x j=>by
 obtain⟨xs,m,rfl,rfl,c,a,b⟩:=DataW.trod_struct Tryz.underlying68 j
 obtain⟨v0,l,e⟩:=rf (Du Tryz.underlying9) (b 0 _ rfl) a
 obtain⟨t,o,f⟩:=rf (fw Tryz.underlying4) (b 1 _ rfl) a
 obtain⟨v2,p,g⟩:=rf (Cr Tryz.underlying66 (by kernel_rfl:Tryz.prog.cellsOf 134=3) (by decide) (fun _=>rfl) (fun k d=>(vR k))) (b 2 _ rfl) a
 obtain⟨v3,r,h⟩:=rf (Cr Tryz.underlying43 (by kernel_rfl:Tryz.prog.cellsOf 182=2) (by decide) (fun _=>rfl) (fun k d=>(g7 k))) (b 3 _ rfl) a
 obtain⟨v4,s,i⟩:=rf (Cr Tryz.underlying45 (by kernel_rfl:Tryz.prog.cellsOf 209=8) (by decide) (fun _=>rfl) (fun k d=>(Js k))) (b 4 _ rfl) a
 have q:=Dw (A5 e (A5 f (A5 g (A5 h (Dt i)))))
 exact⟨.mk v0 t v2 v3 v4,⟨by rw[c];kernel_rfl,(l.at.app (o.at.app (p.at.app (r.at.app s.at))))⟩,q⟩
theorem vk(n:Nat):BJ enc Tryz.prog W n 136 Fk:=fun cs x i=>by
 obtain⟨xs,m,rfl,rfl,c,a,b⟩:=DataW.trod_struct Tryz.underlying136 i
 obtain⟨v0,j,d⟩:=rf (Du Tryz.underlying9) (b 0 _ rfl) a
 obtain⟨s,l,e⟩:=rf (Du Tryz.underlying9) (b 1 _ rfl) a
 obtain⟨v2,o,f⟩:=rf (Du Tryz.underlying9) (b 2 _ rfl) a
 obtain⟨v3,p,g⟩:=rf (Dv Tryz.underlying3) (b 3 _ rfl) a
 obtain⟨v4,r,h⟩:=rf (Cr Tryz.underlying45 (by kernel_rfl:Tryz.prog.cellsOf 209=8) (by decide) (fun _=>rfl) (fun k t=>(Js k))) (b 4 _ rfl) a
 have q:=Dw (A5 d (A5 e (A5 f (A5 g (Dt h)))))
 exact⟨.mk v0 s v2 v3 v4,⟨by rw[c];kernel_rfl,(j.at.app (l.at.app (o.at.app (p.at.app r.at))))⟩,q⟩
theorem vh(n:Nat):BJ enc Tryz.prog W n 86 CA:=fun cs x h=>by
 obtain⟨xs,m,rfl,rfl,b,a,c⟩:=DataW.trod_struct Tryz.underlying86 h
 obtain⟨v0,i,d⟩:=rf (Du Tryz.underlying9) (c 0 _ rfl) a
 obtain⟨o,j,e⟩:=rf (Cr Tryz.underlying84 (by kernel_rfl:Tryz.prog.cellsOf 136=5) (by decide) (fun _=>rfl) (fun k g=>(vk k))) (c 1 _ rfl) a
 obtain⟨v2,l,f⟩:=rf (Cr Tryz.underlying45 (by kernel_rfl:Tryz.prog.cellsOf 209=8) (by decide) (fun _=>rfl) (fun k g=>(Js k))) (c 2 _ rfl) a
 have q:=Dw (A5 d (A5 e (Dt f)))
 exact⟨.mk v0 o v2,⟨by rw[b];kernel_rfl,(i.at.app (j.at.app l.at))⟩,q⟩
theorem wv(n:Nat):BJ enc Tryz.prog W n 26 An:=fun cs x h=>by
 obtain⟨xs,m,rfl,rfl,b,a,c⟩:=DataW.trod_struct Tryz.underlying26 h
 obtain⟨v0,i,e⟩:=rf (Cr Tryz.underlying22 (by kernel_rfl:Tryz.prog.cellsOf 47=5) (by decide) (fun _=>rfl) (fun k d=>(vD k))) (c 0 _ rfl) a
 obtain⟨o,j,f⟩:=rf (Cr Tryz.underlying23 (by kernel_rfl:Tryz.prog.cellsOf 68=5) (by decide) (fun _=>rfl) (fun k d=>(vm k))) (c 1 _ rfl) a
 obtain⟨v2,l,g⟩:=rf (Cr Tryz.underlying24 (by kernel_rfl:Tryz.prog.cellsOf 86=3) (by decide) (fun _=>rfl) (fun k d=>(vh k))) (c 2 _ rfl) a
 have q:=Dw (A5 e (A5 f (Dt g)))
 exact⟨.mk v0 o v2,⟨by rw[b];kernel_rfl,(i.at.app (j.at.app l.at))⟩,q⟩
end
end Go.Proofs.YtopncadjpnkjhaaGreatDoor
namespace Go.Eng
set_option linter.all false
open Go Go.RowKit
section
variable {σ ξ ρ α β γ:Type}
theorem E2{B:Nat→Option (Lv Nat ξ ρ)}{N:Nat}(l:List α)(p:α→Bool)(f:Nat→ρ)(e:ξ)
  (hs:∀i x,l[i]?=some x→B i=some (if p x=true then .rt (f i)else .nx (i+1))) (he:B l.length=some (.ex e)) (hN:l.length<N):
  Ak B N 0=some (match l.findIdx? p with|some i=>.inr (f i)|none=>.inl e):=by
 suffices H:∀k i N,i+k=l.length→k<N→Ak B N i=some (match (l.drop i).findIdx? p with|some j=>.inr (f (i+j))|none=>.inl e)by
  have:=H l.length 0 N (by omega) hN
  simpa using this
 intro k
 induction k with
 |zero=>
  intro i N hi hN
  obtain⟨N,rfl⟩:∃m,N=m+1:=⟨N-1,by omega⟩
  have:i=l.length:=by omega
  subst this
  rw[Ak,he,Rs]
  rfl
 |succ k b=>
  intro i N hi hN
  obtain⟨N,rfl⟩:∃m,N=m+1:=⟨N-1,by omega⟩
  have a:i<l.length:=by omega
  rw[Ak,hs i l[i] (Yc a),HK a,List.findIdx?_cons]
  cases c:p l[i]with
  |true=>simp
  |false=>
   simp only[Yx,YY]
   rw[b (i+1) N (by omega) (by omega)]
   cases(List.drop (i+1) l).findIdx? p with
   |none=>rfl
   |some j=>simp[Yv,KY 1 j]
def Jp(R:List α→α→Option ρ):List α→List α→Option ρ
 |_,[]=>none
 |p,x::l=>match R p x with
  |some r=>some r
  |none=>Jp R (p++[x]) l
theorem rj{B:σ→Option (Lv σ ξ ρ)}{N:Nat}(l:List α)(S:List α→β)(R:List α→α→Option ρ)(mk:Nat→β→σ)(e:β→ξ)
  (hs:∀i x,l[i]?=some x→B (mk i (S (l.take i)))=some (match R (l.take i) x with|some r=>.rt r|none=>.nx (mk (i+1) (S (l.take i++[x])))))
  (he:B (mk l.length (S l))=some (.ex (e (S l)))) (hN:l.length<N):Ak B N (mk 0 (S []))=some ((Jp R [] l).elim (.inl (e (S l))) .inr):=by
 suffices H:∀k i N,i+k=l.length→k<N→Ak B N (mk i (S (l.take i)))=some ((Jp R (l.take i) (l.drop i)).elim (.inl (e (S l))) .inr)by
  have:=H l.length 0 N (by omega) hN
  grind
 intro k
 induction k with
 |zero=>
  intro i N hi hN
  obtain⟨N,rfl⟩:∃m,N=m+1:=⟨N-1,by omega⟩
  have:i=l.length:=by omega
  subst this
  rw[Ak,Rr,he,Rs]
  rfl
 |succ k b=>
  intro i N hi hN
  obtain⟨N,rfl⟩:∃m,N=m+1:=⟨N-1,by omega⟩
  have a:i<l.length:=by omega
  rw[Ak,hs i l[i] (Yc a),HK a,Jp]
  cases R (l.take i) l[i]with
  |some r=>rfl
  |none=>
   have:=b (i+1) N (by omega) (by omega)
   rw[YW a]at this
   exact this
theorem cB{R:List α→α→Option ρ}(h:∀p x,R p x=none):∀(l p:List α),Jp R p l=none
 |[],p=>rfl
 |x::l,p=>by rw[Jp,h];exact cB h l _
theorem Lr{B:σ→Option (Lv σ ξ ρ)}{N:Nat}(l:List α)(S:List α→β)(mk:Nat→β→σ)(e:β→ξ)
  (hs:∀i x,l[i]?=some x→B (mk i (S (l.take i)))=some (.nx (mk (i+1) (S (l.take i++[x])))))
  (he:B (mk l.length (S l))=some (.ex (e (S l)))) (hN:l.length<N):Ak B N (mk 0 (S []))=some (.inl (e (S l))):=by
 rw[rj l S (fun _ _=>none) mk e hs he hN,cB fun _ _=>rfl]
 rfl
theorem dQ{B:σ→Option (Lv σ ξ ρ)}(I:Nat→σ→Prop)(Q:ξ ⊕ ρ→Prop)
  (h:∀k v,I k v→∃o,B v=some o∧match o with|.nx c=>∃k',k'<k∧I k' c|.ex b=>Q (.inl b)|.rt y=>Q (.inr y)):
  ∀N k v,k<N→I k v→∃o,Ak B N v=some o∧Q o
 |0,k,v,d,_=>absurd d (IR _)
 |N+1,k,v,d,g=>by
  obtain⟨o,e,a⟩:=h k v g
  rw[Ak,e]
  cases o with
  |nx c=>obtain⟨k',i,f⟩:=a;exact dQ I Q h N k' c (by omega) f
  |ex b=>exact⟨_,rfl,a⟩
  |rt y=>exact⟨_,rfl,a⟩
theorem Ci{l:List α}{i:Nat}{x:α}(h:l[i]?=some x):(i:Int)<(l.length:Int):=by
 grind
theorem BO{n:Nat}(h:n<4611686018427387904):n<Aj:=h
end
end Go.Eng
namespace Go.Proofs.YtopncadjpnkjhaaGreatDoor
set_option linter.all false
open Go Go.Eng
def Ok{α:Type}(Q:α→Prop)(o:Option α):Prop:=∃y,o=some y∧Q y
section
variable {α β γ σ ξ ρ:Type} {Q:β→Prop} {P:α→Prop}
theorem Ay{y:β}(h:Q y):Ok Q (some y):=⟨y,rfl,h⟩
theorem Aw{m:Option α}{k:α→Option β}(h:Ok P m)(a:∀y,P y→Ok Q (k y)):Ok Q (m.bind k):=by
 obtain⟨y,rfl,h⟩:=h
 exact a y h
theorem Bq{xs:List α}{i:Nat}{k:α→Option β}(h:i<xs.length)(a:∀x,xs[i]?=some x→x∈xs→Ok Q (k x)):Ok Q (xs[i]?.bind k):=by
 rw[Yc h]
 exact a _ (Yc h) (KJ h)
theorem Az{b:Bool}{x y:Option β}(h:b=true→Ok Q x)(a:b=false→Ok Q y):Ok Q (if b=true then x else y):=by
 cases b
 ·exact a rfl
 ·exact h rfl
theorem AB{c:Prop}{d:Decidable c}{a:Option β}(b:c)(h:Ok Q a):Ok Q (if c then a else none):=by
 rw[Yj b]
 exact h
theorem jz{lo hi:Bd}{n:Nat}{a:Option β}(b:lo.c∧hi.c∧lo.vl 0≤hi.vl n∧hi.vl n≤n)(h:Ok Q a):Ok Q (if lo.c∧hi.c∧lo.vl 0≤hi.vl n∧hi.vl n≤n then a else none):=by
 rw[Yj b]
 exact h
theorem A6{b:Bool}{m:Option α}{x:Option β}(h:b=true→Ok P m)[Inhabited α](d:(b=true→P (m.getD default))→Ok Q x):Ok Q (if(b=true→m.isSome=true)then x else none):=by
 rw[Yj fun e=>by obtain⟨y,h,_⟩:=h e;rw[h];rfl]
 refine d fun e=>?_
 obtain⟨y,a,c⟩:=h e
 rw[a]
 exact c
theorem EC{b:Bool}{xs:List α}{i:Int}{x:Option β}[Rw α](h:b=true→0≤i∧i<xs.length)(c:(b=true→xs[i.toNat]?=some (xs.getD i.toNat Rw.z)∧xs.getD i.toNat Rw.z∈xs)→Ok Q x):Ok Q (if(b=true→0≤i∧i<xs.length)then x else none):=by
 rw[Yj h]
 refine c fun e=>?_
 have d:=h e
 have a:i.toNat<xs.length:=by omega
 rw[Yw,Yc a]
 exact⟨rfl,KJ a⟩
theorem Bf{B:σ→Option (Lv σ ξ ρ)}{N:Nat}{v:σ}(I:σ→Prop)(μ:σ→Nat){A:ξ→Prop}{R:ρ→Prop}(d:I v)(hN:μ v<N)
  (hs:∀v,I v→Ok (fun o=>match o with|.nx c=>I c∧μ c<μ v|.ex b=>A b|.rt y=>R y) (B v)):Ok (Sum.elim A R) (Ak B N v):=
 dQ (fun k v=>I v∧μ v≤k) (Sum.elim A R) (fun k v h=>by
  obtain⟨o,e,a⟩:=hs v h.1
  refine⟨o,e,?_⟩
  cases o with
  |nx c=>exact⟨μ c,by have:=a.2;have:=h.2;omega,a.1,Yg _⟩
  |ex b=>exact a
  |rt y=>exact a) N (μ v) v hN ⟨d,Yg _⟩
theorem Bj{m:Option (ξ ⊕ ρ)}{A:ξ→Prop}{R:ρ→Prop}{f:ξ→Option β}{g:ρ→Option β}(h:Ok (Sum.elim A R) m)(c:∀b,A b→Ok Q (f b))(a:∀r,R r→Ok Q (g r)):Ok Q (m.bind (Sum.elim f g)):=by
 obtain⟨y,rfl,h⟩:=h
 cases y with
 |inl b=>exact c b h
 |inr r=>exact a r h
theorem Ok.mono{a:β→Prop}{o:Option β}(h:Ok Q o)(k:∀y,Q y→a y):Ok a o:=by
 obtain⟨y,b,c⟩:=h
 exact⟨y,b,k y c⟩
theorem Ok.some{o:Option β}(h:Ok Q o):o.isSome=true:=by
 obtain⟨y,a,b⟩:=h
 rw[a]
 rfl
end
abbrev Tr{α:Type}:α→Prop:=fun _=>True
abbrev No{α:Type}:α→Prop:=fun _=>False
abbrev Ts{α β:Type}:α ⊕ β→Prop:=Sum.elim Tr Tr
theorem kL:(⟨#[]⟩:ByteArray).size=0:=rfl
theorem AK{p:Prop}(h:p:=by first|trivial|assumption|contradiction|omega|grind|(simp only[Bd.c,Bd.vl,ByteArray.size_append,XV,kL]at*;grind)):p:=h
theorem BI{p:Prop}(h:p:=by first|trivial|assumption|contradiction|omega|solve_by_elim|(simp only[Yb,Yu,YN,KM,IN,YO,YI]at*;omega)|grind):p:=h
theorem N5(x:Int):Ok Tr (bO x):=⟨_,rfl,trivial⟩
theorem NE(x:Int):Ok Tr (bK x):=⟨_,rfl,trivial⟩
theorem aJ(x:Val):Ok Tr (Ti x):=⟨_,rfl,trivial⟩
theorem ZO(x:Int):Ok Tr (TJ x):=⟨_,rfl,trivial⟩
theorem ZA(x:Int):Ok Tr (TG x):=by
 dsimp only[TG,br,lr,br,rem]
 (repeat' (first|with_reducible (first|refine Az (fun _=>?_) fun _=>?_|refine Ay ?_|refine AB ?_ ?_)))<;>exact BI
theorem R1(x:ByteArray):Ok Tr (Tg x):=by
 dsimp only[Tg,O0,Ln,Lh,br,lr,br]
 (repeat' (first|with_reducible (first|refine Az (fun _=>?_) fun _=>?_|refine Ay ?_|refine AB ?_ ?_)))<;>exact BI
theorem na(x:ByteArray)(n:Int):Ok Tr (Tk x n):=by
 dsimp only[Tk,UL,O1,OJ,Le,Lg,OF,br,lr,br]
 (repeat' (first|with_reducible (first|refine Az (fun _=>?_) fun _=>?_|refine Ay ?_|refine AB ?_ ?_)))<;>exact BI
theorem SQ(x:ByteArray):Ok Tr (Tw x):=by
 dsimp only[Tw,br,lr,br]
 (repeat' (first|with_reducible (first|refine Az (fun _=>?_) fun _=>?_|refine Ay ?_|refine AB ?_ ?_)))<;>exact BI
def IE(x:Fld):Prop:=(x.card≠5→1≤x.card∧x.card≤4∧x.key=0)∧(x.card=5→x.key=1∨x.key=2∨x.key=3∨x.key=4∨x.key=5∨x.key=7)
theorem kD(x:Fld):Ok (fun b=>b=true→IE x) (Tl x):=by
 unfold IE
 dsimp only[Tl,br,wg,lr,br]
 (repeat' (first|with_reducible (first|refine Az (fun _=>?_) fun _=>?_|refine Ay ?_|refine AB ?_ ?_)))<;>(intro h;first|(cases h;done)|(simp only[Yb,YN,RD,YO,YI]at*;omega))
theorem Sg(x:ByteArray)(i a b:Int)(h:0≤i):Ok Tr (S6 x i a b):=by
 dsimp only[S6,vz,lr,A1,EQ]
 (repeat' (first|with_reducible (first|refine Az (fun _=>?_) fun _=>?_|refine Ay ?_|refine AB ?_ ?_)))<;>exact BI
theorem bl(x:ByteArray)(i n:Int)(h:0≤i)(a:i≤2097152)(b:n≤9):Ok Tr (To x i n):=by
 have q:Ok Ts (Ak (PO x i n) Aj 0):=by
  refine Bf (fun _:Nat=>True) (fun v:Nat=>(n-v).toNat) trivial ?_ fun v _=>?_
  ·unfold Aj
   omega
  dsimp only[PO,br,vs,Ap,ln,Ah,cl,wa,wi,br]
  (repeat' (first|with_reducible (first|refine Az (fun _=>?_) fun _=>?_|refine Ay ?_)|(with_reducible apply Aw;(exact Sg _ _ _ _ (by omega));intro _ _)|with_reducible refine AB ?_ ?_))<;>exact BI
 dsimp only[To,lr,lc]
 (repeat' (first|with_reducible (first|refine Az (fun _=>?_) fun _=>?_|refine Ay ?_)|(with_reducible apply Bj;(exact q);all_goals(intro _ _;try dsimp only))|with_reducible refine AB ?_ ?_))<;>exact BI
set_option maxRecDepth 20000 in
theorem mZ(x:ByteArray)(i:Int)(h:0≤i)(h1:i<x.size)(h2:x.size≤1048576):Ok (fun y=>0≤y∧y≤4) (Tm x i):=by
 dsimp only[Tm,br,vg,lr,AA,wi,br,QK]
 (repeat' (first|with_reducible (first|refine Az (fun _=>?_) fun _=>?_|refine Ay ?_|refine Bq ?_ fun _ _ _=>?_)|(with_reducible apply Aw;(exact Sg _ _ _ _ (by omega));intro _ _)|(with_reducible apply Aw;(exact bl _ _ _ (by omega) (by omega) (by omega));intro _ _)|(with_reducible apply A6;(exact fun _=>Sg _ _ _ _ (by omega));intro _)|(with_reducible apply A6;(exact fun _=>bl _ _ _ (by omega) (by omega) (by omega));intro _)|with_reducible refine AB ?_ ?_))<;>exact BI
theorem U1:∀a b:List (List D),Bk (a++b)=Bk a+Bk b
 |[],b=>by rw[FL,Bk,YH]
 |x::a,b=>by rw[GJ,Bk,Bk,U1 a b];omega
theorem UC{α:Type}(e:α→List D){l:List α}{i:Nat}{x:α}(h:l[i]?=some x):Bk ((l.take (i+1)).map e)=Bk ((l.take i).map e)+Ao (e x)+1:=by
 obtain⟨a,rfl⟩:=Ye.1 h
 rw[YW a,IT,U1]
 simp only[Y1,List.map_nil,Bk]
 omega
theorem Ja{α:Type}(e:α→List D)(l:List α)(i:Nat):Bk ((l.take i).map e)≤Bk (l.map e):=by
 conv=>rhs;rw[←GI i l,IT,U1]
 omega
structure SzV (v:Val):Prop where
 t:v.text.size≤1048576
 l:v.list.length≤1048576
 p:v.pairs.length≤1048576
 s:v.slots.length≤1048576
 r:v.raws.length≤1048576
structure SzN (x:Nt):Prop where
 n:x.name.size≤1048576
 v:SzV x.val
abbrev Gm(l:List Nt):Prop:=l.length≤1048576∧∀x∈l,SzN x
structure SzF (x:Fld):Prop where
 n:x.name.size≤1048576
 t:x.type.name.size≤1048576
 u:x.union.size≤1048576
 d:SzV x.dflt
 o:Gm x.notes
structure SzM (x:Msg):Prop where
 n:x.name.size≤1048576
 fl:x.fields.length≤1048576
 f:∀y∈x.fields,SzF y
 r:x.reserved.length≤1048576
 gl:x.gone.length≤1048576
 g:∀y∈x.gone,y.size≤1048576
 o:Gm x.notes
structure SzI (x:Itm):Prop where
 n:x.name.size≤1048576
 o:Gm x.notes
structure SzE (x:Enm):Prop where
 n:x.name.size≤1048576
 il:x.items.length≤1048576
 i:∀y∈x.items,SzI y
 r:x.reserved.length≤1048576
 o:Gm x.notes
structure SzT (x:Mth):Prop where
 n:x.name.size≤1048576
 o:Gm x.notes
structure SzW (x:Svc):Prop where
 n:x.name.size≤1048576
 ml:x.methods.length≤1048576
 m:∀y∈x.methods,SzT y
 o:Gm x.notes
structure SzS (x:Scm):Prop where
 ml:x.messages.length≤1048576
 m:∀y∈x.messages,SzM y
 el:x.enums.length≤1048576
 e:∀y∈x.enums,SzE y
 wl:x.services.length≤1048576
 w:∀y∈x.services,SzW y
theorem EV{v:Val}(h:Ao (Ai v)≤1048576):SzV v:=by
 have a:=B1 (e:=AC) v.list
 have b:=B1 (e:=Av) v.pairs
 have c:=B1 (e:=Aq) v.slots
 have d:=B1 (e:=A3) v.raws
 simp only[Ai,Ao,bk]at h
 constructor<;>omega
theorem Qd{v:Val}(h:Ao (Ai v)≤1048576):0≤v.bits∧v.bits≤18446744073709551615:=by
 simp only[Ai,Ao,bk]at h
 have:=lY (k:=.u64) (n:=v.bits) (by omega)
 exact this
theorem wV{x:Nt}(h:Ao (BD x)≤1048576):SzN x:=by
 have e:Ao (BD x)=x.name.size+Ao (Ai x.val):=by simp only[BD,Ai,Ao,bk]
 exact⟨by omega,EV (by omega)⟩
theorem JS{l:List Nt}(h:Bk (l.map BD)≤1048576):Gm l:=⟨by have:=B1 (e:=BD) l;omega,fun x a=>wV (by have:=CH (e:=BD) a;omega)⟩
theorem wS{x:Fld}(h:Ao (Am x)≤1048576):SzF x:=by
 have e:x.name.size+x.type.name.size+x.union.size+Ao (Ai x.dflt)+Bk (x.notes.map BD)≤Ao (Am x):=by
  simp only[Am,Ai,Ao,bk]
  omega
 exact⟨by omega,by omega,by omega,EV (by omega),JS (by omega)⟩
theorem wU{x:Msg}(h:Ao (AG x)≤1048576):SzM x:=by
 simp only[AG,Ao,bk]at h
 have a:=B1 (e:=Am) x.fields
 have b:=B1 (e:=BY) x.reserved
 have c:=B1 (e:=AO) x.gone
 exact⟨by omega,by omega,fun y hy=>wS (by have:=CH (e:=Am) hy;omega),by omega,by omega,fun y hy=>by have:=CH (e:=AO) hy;simp only[AO,Ao,bk]at this;omega,JS (by omega)⟩
theorem wT{x:Itm}(h:Ao (Cc x)≤1048576):SzI x:=by
 simp only[Cc,Ao,bk]at h
 exact⟨by omega,JS (by omega)⟩
theorem wR{x:Enm}(h:Ao (Bs x)≤1048576):SzE x:=by
 simp only[Bs,Ao,bk]at h
 have a:=B1 (e:=Cc) x.items
 have b:=B1 (e:=BY) x.reserved
 exact⟨by omega,by omega,fun y hy=>wT (by have:=CH (e:=Cc) hy;omega),by omega,JS (by omega)⟩
theorem wW{x:Mth}(h:Ao (Fk x)≤1048576):SzT x:=by
 simp only[Fk,Ao,bk]at h
 exact⟨by omega,JS (by omega)⟩
theorem wX{x:Svc}(h:Ao (CA x)≤1048576):SzW x:=by
 simp only[CA,Ao,bk]at h
 have a:=B1 (e:=Fk) x.methods
 exact⟨by omega,by omega,fun y hy=>wW (by have:=CH (e:=Fk) hy;omega),JS (by omega)⟩
theorem FG{x:Scm}(h:Ao (An x)≤1048576):SzS x:=by
 simp only[An,Ao,bk]at h
 have a:=B1 (e:=AG) x.messages
 have b:=B1 (e:=Bs) x.enums
 have c:=B1 (e:=CA) x.services
 exact⟨by omega,fun y hy=>wU (by have:=CH (e:=AG) hy;omega),by omega,fun y hy=>wR (by have:=CH (e:=Bs) hy;omega),by omega,fun y hy=>wX (by have:=CH (e:=CA) hy;omega)⟩
theorem Vj(x:ByteArray):x.data.toList.length=x.size:=by rw[Y6];rfl
theorem Bu{n:Nat}(h:n≤2097152):n<Aj:=by unfold Aj;omega
theorem nn(x:ByteArray)(h:x.size≤1048576):Ok Tr (Tq x):=by
 have q:Ok Ts (Ak (Pu x) Aj 0):=by
  refine Bf (fun v:Int=>0≤v∧v≤x.size+4) (fun v:Int=>(x.size+4-v).toNat) ⟨by omega,by omega⟩ (Bu (by omega)) fun v a=>?_
  dsimp only[Pu,br,vz,vs,Ap,ln,Ah,cl,wi,A1,br]
  (repeat' (first|with_reducible (first|refine Az (fun _=>?_) fun _=>?_|refine Ay ?_)|(with_reducible apply Aw;(exact mZ _ _ a.1 BI h);intro _ _)|with_reducible refine AB ?_ ?_))<;>exact AK
 dsimp only[Tq,lr,lc]
 (repeat' (first|with_reducible (first|refine Az (fun _=>?_) fun _=>?_|refine Ay ?_)|(with_reducible apply Bj;(exact q);all_goals(intro _ _;try dsimp only))|with_reducible refine AB ?_ ?_))<;>exact BI
theorem W6(x:ByteArray)(h:x.size≤1048576):Ok Tr (Oe x):=by
 dsimp only[Oe,lr,cl]
 (repeat' (first|with_reducible (first|refine Az (fun _=>?_) fun _=>?_|refine Ay ?_)|(with_reducible apply Aw;(exact nn _ h);intro _ _)|with_reducible refine AB ?_ ?_))<;>exact BI
theorem N1(x:ByteArray)(h:x.size≤1048576):Ok Tr (Tx x):=by
 have hl:=Vj x
 have q:Ok Ts (Ak (Pm x) Aj 1):=by
  refine Bf (fun v:Nat=>v≤1048577) (fun v:Nat=>1048577-v) (by omega) (Bu (by omega)) fun v a=>?_
  dsimp only[Pm,br,vz,vs,Ap,ln,Ah,cl,AA,wa,A1,br,ib,EQ]
  (repeat' (first|with_reducible (first|refine Az (fun _=>?_) fun _=>?_|refine Ay ?_|refine Bq ?_ fun _ _ _=>?_)|(with_reducible apply Aw;(exact N5 _);intro _ _)|(with_reducible apply Aw;(exact NE _);intro _ _)|(with_reducible apply A6;(exact fun _=>N5 _);intro _)|(with_reducible apply A6;(exact fun _=>NE _);intro _)|with_reducible refine AB ?_ ?_))<;>exact AK
 dsimp only[Tx,br,vz,vy,lr,lc,AA,A1,br,EQ]
 (repeat' (first|with_reducible (first|refine Az (fun _=>?_) fun _=>?_|refine Ay ?_)|(with_reducible apply Bj;(exact q);all_goals(intro _ _;try dsimp only))|(with_reducible apply Aw;(exact N5 _);intro _ _)|(with_reducible apply Aw;(exact NE _);intro _ _)|(with_reducible apply A6;(exact fun _=>N5 _);intro _)|(with_reducible apply A6;(exact fun _=>NE _);intro _)|with_reducible refine AB ?_ ?_))<;>exact BI
theorem nN(x:ByteArray)(h:x.size≤1048576):Ok Tr (Tz x):=by
 have hl:=Vj x
 have q:Ok (Sum.elim (fun b:ByteArray=>b.size≤1048576) Tr) (Ak (Pv x) Aj (⟨#[]⟩,0)):=by
  refine Bf (fun v:ByteArray×Nat=>v.1.size≤v.2∧v.2≤x.size) (fun v:ByteArray×Nat=>x.size-v.2) ⟨by rw[kL];omega,by omega⟩ (Bu (by omega)) fun v a=>?_
  obtain⟨v,i⟩:=v
  obtain⟨a,hi⟩:=a
  dsimp only at a hi
  dsimp only[Pv,br,vz,vs,v2,Ap,ln,Ah,ad,cl,wa,ss,A1,br,ib]
  (repeat' (first|with_reducible (first|refine Az (fun _=>?_) fun _=>?_|refine Ay ?_|refine Bq ?_ fun _ _ _=>?_)|(with_reducible apply Aw;(exact N1 _ (by omega));intro _ _)|with_reducible (first|refine jz ?_ ?_|refine AB ?_ ?_)))<;>exact AK
 dsimp only[Tz,br,vz,lr,lc,cl,A1,br]
 (repeat' (first|with_reducible (first|refine Az (fun _=>?_) fun _=>?_|refine Ay ?_)|(with_reducible apply Bj;(exact q);all_goals(intro _ _;try dsimp only))|(with_reducible apply Aw;(exact N1 _ (by assumption));intro _ _)|with_reducible refine AB ?_ ?_))<;>exact BI
set_option maxRecDepth 20000 in
theorem nE(x:ByteArray)(h:x.size≤1048576):Ok (fun y=>y.1.size≤1048576∧y.2.size≤1048576) (TH x):=by
 have hl:=Vj x
 have q:Ok (Sum.elim Tr (fun y:ByteArray×ByteArray=>y.1.size≤1048576∧y.2.size≤1048576)) (Ak (PC x) Aj ((x.size:Int)-1)):=by
  refine Bf (fun v:Int=>-1≤v∧v<x.size) (fun v:Int=>(v+1).toNat) ⟨by omega,by omega⟩ (Bu (by omega)) fun v hv=>?_
  dsimp only[PC,br,vs,Ap,ln,Ah,wi,ss,br,QK]
  (repeat' (first|with_reducible (first|refine Az (fun _=>?_) fun _=>?_|refine Ay ?_|refine Bq ?_ fun _ _ _=>?_|refine jz ?_ ?_|refine AB ?_ ?_)))<;>exact AK
 dsimp only[TH,vz,vs,lr,lc,wi,A1]
 (repeat' (first|with_reducible (first|refine Az (fun _=>?_) fun _=>?_|refine Ay ?_)|(with_reducible apply Bj;(exact q);all_goals(intro _ _;try dsimp only))|with_reducible refine AB ?_ ?_))<;>exact AK
set_option maxRecDepth 20000 in
theorem W4(x:ByteArray)(h:x.size≤1048576):Ok Tr (Ty x):=by
 have q:Ok Ts (Ak Qp Aj (x,0)):=by
  refine Bf (fun v:ByteArray×Nat=>v.1.size≤1048576∧v.2≤120) (fun v:ByteArray×Nat=>120-v.2) ⟨h,by omega⟩ (Bu (by omega)) fun v hv=>?_
  obtain⟨v,i⟩:=v
  obtain⟨hv,hi⟩:=hv
  dsimp only at hv hi
  dsimp only[Qp,br,vs,v2,Ap,ln,Ah,cl,wa,br]
  (repeat' (first|with_reducible (first|refine Az (fun _=>?_) fun _=>?_|refine Ay ?_)|(with_reducible apply Aw;(exact nE _ hv);intro _ _)|(with_reducible apply Aw;(exact SQ _);intro _ _)|with_reducible refine AB ?_ ?_))<;>exact AK
 dsimp only[Ty,br,lr,lc,cl,br]
 (repeat' (first|with_reducible (first|refine Az (fun _=>?_) fun _=>?_|refine Ay ?_)|(with_reducible apply Bj;(exact q);all_goals(intro _ _;try dsimp only))|(with_reducible apply Aw;(exact nN _ h);intro _ _)|with_reducible refine AB ?_ ?_))<;>exact AK
set_option maxRecDepth 20000 in
theorem IA(x:ByteArray)(h:x.size≤1048576):Ok Tr (Ta x):=by
 dsimp only[Ta,lr,cl,AA]
 (repeat' (first|with_reducible (first|refine Az (fun _=>?_) fun _=>?_|refine Ay ?_)|(with_reducible apply Aw;(exact N1 _ h);intro _ _)|(with_reducible apply Aw;(exact SQ _);intro _ _)|(with_reducible apply A6;(exact fun _=>N1 _ h);intro _)|(with_reducible apply A6;(exact fun _=>SQ _);intro _)|with_reducible refine AB ?_ ?_))<;>exact AK
theorem kB(l:List ByteArray)(x:ByteArray)(h:l.length≤1048576):Ok Tr (K7 l x):=by
 have q:Ok Ts (Ak (Jz l x) Aj 0):=by
  refine Bf (fun v:Nat=>v≤l.length) (fun v:Nat=>l.length-v) (by omega) (Bu (by omega)) fun v a=>?_
  dsimp only[Jz,br,ix,vz,vs,Ap,ln,Ah,wa,Ag,br]
  (repeat' (first|with_reducible (first|refine Az (fun _=>?_) fun _=>?_|refine Ay ?_|refine Bq ?_ fun _ _ _=>?_|refine AB ?_ ?_)))<;>exact AK
 dsimp only[K7,lr,lc]
 (repeat' (first|with_reducible (first|refine Az (fun _=>?_) fun _=>?_|refine Ay ?_)|(with_reducible apply Bj;(exact q);all_goals(intro _ _;try dsimp only))|with_reducible refine AB ?_ ?_))<;>exact AK
theorem W5(l:List Spn)(x:Int)(h:l.length≤1048576):Ok Tr (S3 l x):=by
 have q:Ok Ts (Ak (PV l x) Aj 0):=by
  refine Bf (fun v:Nat=>v≤l.length) (fun v:Nat=>l.length-v) (by omega) (Bu (by omega)) fun v a=>?_
  dsimp only[PV,br,ix,Bv,vz,vs,Ap,ln,Ah,wa,Ag,br]
  (repeat' (first|with_reducible (first|refine Az (fun _=>?_) fun _=>?_|refine Ay ?_|refine Bq ?_ fun _ _ _=>?_|refine EC ?_ fun _=>?_|refine AB ?_ ?_)))<;>exact AK
 dsimp only[S3,lr,lc]
 (repeat' (first|with_reducible (first|refine Az (fun _=>?_) fun _=>?_|refine Ay ?_)|(with_reducible apply Bj;(exact q);all_goals(intro _ _;try dsimp only))|with_reducible refine AB ?_ ?_))<;>exact AK
theorem MG(s:Scm)(x:ByteArray)(h:SzS s):Ok (fun y:Int=>y<s.messages.length∧(0≤y→∃m∈s.messages,m.name=x)) (Tb s x):=by
 have hm:=h.ml
 have q:Ok (Sum.elim Tr fun y:Int=>y<s.messages.length∧(0≤y→∃m∈s.messages,m.name=x)) (Ak (P5 s x) Aj 0):=by
  refine Bf (fun v:Nat=>v≤s.messages.length) (fun v:Nat=>s.messages.length-v) (by omega) (Bu (by omega)) fun v a=>?_
  dsimp only[P5,br,ix,vz,wg,vs,Ap,ln,Ah,wa,Ag,br]
  (repeat' (first|with_reducible (first|refine Az (fun _=>?_) fun _=>?_|refine Ay ?_|refine Bq ?_ fun _ _ _=>?_|refine AB ?_ ?_)))<;>first|exact⟨by omega,fun _=>⟨_,by assumption,Y4 (by assumption)⟩⟩|exact AK
 dsimp only[Tb,lr,lc]
 (repeat' (first|with_reducible (first|refine Az (fun _=>?_) fun _=>?_|refine Ay ?_)|(with_reducible apply Bj;(exact q);all_goals(intro _ _;try dsimp only))|with_reducible refine AB ?_ ?_))<;>first|exact⟨by omega,fun h=>absurd h (by decide)⟩|exact AK
theorem Sk(s:Scm)(x:ByteArray)(h:SzS s):Ok (fun y:Int=>y<s.enums.length∧(0≤y→∃m∈s.enums,m.name=x)) (S4 s x):=by
 have hm:=h.el
 have q:Ok (Sum.elim Tr fun y:Int=>y<s.enums.length∧(0≤y→∃m∈s.enums,m.name=x)) (Ak (PF s x) Aj 0):=by
  refine Bf (fun v:Nat=>v≤s.enums.length) (fun v:Nat=>s.enums.length-v) (by omega) (Bu (by omega)) fun v a=>?_
  dsimp only[PF,br,ix,vz,wg,vs,Ap,ln,Ah,wa,Ag,br]
  (repeat' (first|with_reducible (first|refine Az (fun _=>?_) fun _=>?_|refine Ay ?_|refine Bq ?_ fun _ _ _=>?_|refine AB ?_ ?_)))<;>first|exact⟨by omega,fun _=>⟨_,by assumption,Y4 (by assumption)⟩⟩|exact AK
 dsimp only[S4,lr,lc]
 (repeat' (first|with_reducible (first|refine Az (fun _=>?_) fun _=>?_|refine Ay ?_)|(with_reducible apply Bj;(exact q);all_goals(intro _ _;try dsimp only))|with_reducible refine AB ?_ ?_))<;>first|exact⟨by omega,fun h=>absurd h (by decide)⟩|exact AK
theorem Nw(v w:Val)(h:SzV v)(k:SzV w):Ok Tr (S9 v w):=by
 obtain⟨_,_,_,_,_⟩:=h
 obtain⟨_,_,_,_,_⟩:=k
 dsimp only[S9,vy,wg,vg,lr,wa,Ag]
 (repeat' (first|with_reducible (first|refine Az (fun _=>?_) fun _=>?_|refine Ay ?_|refine AB ?_ ?_)))<;>exact AK
def XL(v:Val):Prop:=v.list=[]∧v.pairs=[]∧v.slots=[]∧v.raws=[]∧(v.kind=7∨v.kind=8→v.bits=0)∧(¬(v.kind=7∨v.kind=8)→v.text=⟨#[]⟩)
def Kx(n:Int)(v:Val):Prop:=1≤n∧n≤9∧v.kind=n∧XL v
theorem mg{n:Int}{v:Val}(h:SzV v)(e:I1 n v=some true):Kx n v:=by
 obtain⟨p,q,r,s,t⟩:=h
 have k:v.list.length<4611686018427387904:=by omega
 have l:v.pairs.length<4611686018427387904:=by omega
 have m:v.slots.length<4611686018427387904:=by omega
 have o:v.raws.length<4611686018427387904:=by omega
 have hi:Te n=some (decide (1≤n)&&decide (n≤9)):=rfl
 dsimp only[I1,br,vz,vy,wg,lr,cl,AA,A1,br,Ti,vz,vy,wg,lr,Ag,TJ,lr]at e
 rw[hi]at e
 unfold Kx XL
 simp only[Yh]at e
 generalize Oe v.text=w at e
 simp[k,l,m,o]at e
 split at e
 ·cases e
 ·rename_i c
  simp only[not_or,Decidable.not_not,Classical.not_imp,Int.not_lt]at c
  obtain⟨⟨⟨d,f⟩,b⟩,⟨⟨g,i⟩,j⟩,c6⟩:=c
  refine⟨d,f,b,g,i,j,c6,fun a=>?_,fun a=>?_⟩
  ·rw[b]at a
   simp only[a,YK]at e
   split at e<;>simp_all
  ·rw[b]at a
   simp only[a,YY]at e
   split at e<;>simp_all
theorem NG(n:Int)(v:Val)(h:SzV v):Ok (fun b=>b=true→Kx n v) (I1 n v):=by
 have a:=h.t
 have q:Ok Tr (I1 n v):=by
  have c:Ok Tr (Te n):=⟨_,rfl,trivial⟩
  dsimp only[I1,br,vz,vy,wg,lr,cl,AA,A1,br]
  (repeat' (first|with_reducible (first|refine Az (fun _=>?_) fun _=>?_|refine Ay ?_)|(with_reducible apply Aw;(exact c);intro _ _)|(with_reducible apply Aw;(exact aJ _);intro _ _)|(with_reducible apply Aw;(exact ZO _);intro _ _)|(with_reducible apply Aw;(exact W6 _ a);intro _ _)|(with_reducible apply A6;(exact fun _=>c);intro _)|(with_reducible apply A6;(exact fun _=>aJ _);intro _)|(with_reducible apply A6;(exact fun _=>ZO _);intro _)|(with_reducible apply A6;(exact fun _=>W6 _ a);intro _)|with_reducible refine AB ?_ ?_))<;>exact AK
 obtain⟨b,e,_⟩:=q
 exact⟨b,e,fun d=>mg h (d▸e)⟩
theorem ZU(v:Val)(h:SzV v):Ok SzV (Tn v):=by
 dsimp only[Tn,br,wg,lr,AA,br]
 (repeat' (first|with_reducible (first|refine Az (fun _=>?_) fun _=>?_|refine Ay ?_)|(with_reducible apply Aw;(exact ZA _);intro _ _)|(with_reducible apply A6;(exact fun _=>ZA _);intro _)|with_reducible refine AB ?_ ?_))<;>first|exact h|exact⟨h.t,h.l,h.p,h.s,h.r⟩
theorem nj(x:Nt)(h:SzN x):Ok Tr (TF x):=by
 dsimp only[TF,wg,lr,cl,AA]
 (repeat' (first|with_reducible (first|refine Az (fun _=>?_) fun _=>?_|refine Ay ?_)|(with_reducible apply Aw;(exact R1 _);intro _ _)|(with_reducible apply Aw;(exact NG _ _ h.v);intro _ _)|(with_reducible apply A6;(exact fun _=>R1 _);intro _)|(with_reducible apply A6;(exact fun _=>NG _ _ h.v);intro _)|with_reducible refine AB ?_ ?_))<;>exact AK
theorem nQ(l:List Nt)(n:Int)(h:Gm l):Ok Tr (TK l n):=by
 obtain⟨b,a⟩:=h
 have q:Ok Ts (Ak (PG l n) Aj 0):=by
  refine Bf (fun v:Nat=>v≤l.length) (fun v:Nat=>l.length-v) (by omega) (Bu (by omega)) fun v c=>?_
  dsimp only[PG,br,ix,Bv,vz,vs,vg,Ap,ln,Ah,cl,wa,wi,Ag,br]
  (repeat' (first|with_reducible (first|refine Az (fun _=>?_) fun _=>?_|refine Ay ?_|refine Bq ?_ fun _ _ _=>?_)|(with_reducible apply Aw;(exact R1 _);intro _ _)|(with_reducible apply Aw;(exact na _ _);intro _ _)|(with_reducible apply Aw;(exact nj _ (a _ (by assumption)));intro _ _)|with_reducible (first|refine EC ?_ fun _=>?_|refine AB ?_ ?_)))<;>exact AK
 dsimp only[TK,br,vz,lr,lc,Ag,br]
 (repeat' (first|with_reducible (first|refine Az (fun _=>?_) fun _=>?_|refine Ay ?_)|(with_reducible apply Bj;(exact q);all_goals(intro _ _;try dsimp only))|with_reducible refine AB ?_ ?_))<;>exact AK
end Go.Proofs.YtopncadjpnkjhaaGreatDoor
