import Derived.Test.YthgmbpciandpiaaGreatLx25
import Derived.Test.YthgmbpciandpiaaGreatLx00
namespace Go.Proofs.YthgmbpciandpiaaGreat
set_option linter.all false
open Go Go.Eng
def Ok{α:Type}(Q:α→Prop)(o:Option α):Prop:=∃y,o=some y∧Q y
section
variable {α β γ σ ξ ρ:Type} {Q:β→Prop} {P:α→Prop}
theorem AD{y:β}(h:Q y):Ok Q (some y):=⟨y,rfl,h⟩
theorem AE{m:Option α}{k:α→Option β}(h:Ok P m)(a:∀y,P y→Ok Q (k y)):Ok Q (m.bind k):=by
 obtain⟨y,rfl,h⟩:=h
 exact a y h
theorem Bn{xs:List α}{i:Nat}{k:α→Option β}(h:i<xs.length)(a:∀x,xs[i]?=some x→x∈xs→Ok Q (k x)):Ok Q (xs[i]?.bind k):=by
 rw[Ya h]
 exact a _ (Ya h) (Io h)
theorem AG{b:Bool}{x y:Option β}(h:b=true→Ok Q x)(a:b=false→Ok Q y):Ok Q (if b=true then x else y):=by
 cases b
 ·exact a rfl
 ·exact h rfl
theorem AK{c:Prop}{d:Decidable c}{a:Option β}(b:c)(h:Ok Q a):Ok Q (if c then a else none):=by
 rw[Yg b]
 exact h
theorem xp{lo hi:Bd}{n:Nat}{a:Option β}(b:lo.c∧hi.c∧lo.vl 0≤hi.vl n∧hi.vl n≤n)(h:Ok Q a):Ok Q (if lo.c∧hi.c∧lo.vl 0≤hi.vl n∧hi.vl n≤n then a else none):=by
 rw[Yg b]
 exact h
theorem Bl{b:Bool}{m:Option α}{x:Option β}(h:b=true→Ok P m)[Inhabited α](d:(b=true→P (m.getD default))→Ok Q x):Ok Q (if(b=true→m.isSome=true)then x else none):=by
 rw[Yg fun e=>by obtain⟨y,h,_⟩:=h e;rw[h];rfl]
 refine d fun e=>?_
 obtain⟨y,a,c⟩:=h e
 rw[a]
 exact c
theorem Fa{b:Bool}{xs:List α}{i:Int}{x:Option β}[Rw α](h:b=true→0≤i∧i<xs.length)(c:(b=true→xs[i.toNat]?=some (xs.getD i.toNat Rw.z)∧xs.getD i.toNat Rw.z∈xs)→Ok Q x):Ok Q (if(b=true→0≤i∧i<xs.length)then x else none):=by
 rw[Yg h]
 refine c fun e=>?_
 have d:=h e
 have a:i.toNat<xs.length:=by omega
 rw[Ym,Ya a]
 exact⟨rfl,Io a⟩
theorem A8{B:σ→Option (Lv σ ξ ρ)}{N:Nat}{v:σ}(I:σ→Prop)(μ:σ→Nat){A:ξ→Prop}{R:ρ→Prop}(d:I v)(hN:μ v<N)
  (hs:∀v,I v→Ok (fun o=>match o with|.nx c=>I c∧μ c<μ v|.ex b=>A b|.rt y=>R y) (B v)):Ok (Sum.elim A R) (Am B N v):=
 Kj (fun k v=>I v∧μ v≤k) (Sum.elim A R) (fun k v h=>by
  obtain⟨o,e,a⟩:=hs v h.1
  refine⟨o,e,?_⟩
  cases o with
  |nx c=>exact⟨μ c,by have:=a.2;have:=h.2;omega,a.1,Yf _⟩
  |ex b=>exact a
  |rt y=>exact a) N (μ v) v hN ⟨d,Yf _⟩
theorem Bh{m:Option (ξ ⊕ ρ)}{A:ξ→Prop}{R:ρ→Prop}{f:ξ→Option β}{g:ρ→Option β}(h:Ok (Sum.elim A R) m)(c:∀b,A b→Ok Q (f b))(a:∀r,R r→Ok Q (g r)):Ok Q (m.bind (Sum.elim f g)):=by
 obtain⟨y,rfl,h⟩:=h
 cases y with
 |inl b=>exact c b h
 |inr r=>exact a r h
theorem Ok.mono{a:β→Prop}{o:Option β}(h:Ok Q o)(k:∀y,Q y→a y):Ok a o:=by
 obtain⟨y,b,c⟩:=h
 exact⟨y,b,k y c⟩
theorem Ok.some{o:Option β}(h:Ok Q o):o.isSome=true:=by
 obtain⟨y,a,b⟩:=h
 rw[a]
 rfl
end
abbrev Tr{α:Type}:α→Prop:=fun _=>True
abbrev No{α:Type}:α→Prop:=fun _=>False
abbrev Ts{α β:Type}:α ⊕ β→Prop:=Sum.elim Tr Tr
theorem W2:(⟨#[]⟩:ByteArray).size=0:=rfl
theorem AQ{p:Prop}(h:p:=by first|trivial|assumption|contradiction|omega|grind|(simp only[Bd.c,Bd.vl,ByteArray.size_append,ByteArray.size_extract,W2]at*;grind)):p:=h
theorem A0{p:Prop}(h:p:=by first|trivial|assumption|contradiction|omega|solve_by_elim|(simp only[Yc,YF,YN,Lh,Jq,Yw,YM]at*;omega)|grind):p:=h
end Go.Proofs.YthgmbpciandpiaaGreat
namespace Go.Proofs.YthgmbpciandpiaaGreat
set_option linter.all false
open Go Go.Eng
theorem Sl(x:Int):Ok Tr (Zc5 x):=⟨_,rfl,trivial⟩
theorem Su(x:Int):Ok Tr (ZcQ x):=⟨_,rfl,trivial⟩
theorem ZXi(x:Val):Ok Tr (Oq x):=⟨_,rfl,trivial⟩
theorem ZXW(x:Int):Ok Tr (L6 x):=⟨_,rfl,trivial⟩
theorem ZXd(x:Int):Ok Tr (Oo x):=by
 dsimp only[Oo,Vm,br,lr,br,rem]
 (repeat' (first|with_reducible (first|refine AG (fun _=>?_) fun _=>?_|refine AD ?_|refine AK ?_ ?_)))<;>exact A0
theorem dI(x:ByteArray):Ok Tr (fb x):=by
 dsimp only[fb,mc,TF,OQ,OG,br,lr,br]
 (repeat' (first|with_reducible (first|refine AG (fun _=>?_) fun _=>?_|refine AD ?_|refine AK ?_ ?_)))<;>exact A0
theorem ZZ9(x:ByteArray)(n:Int):Ok Tr (fa x n):=by
 dsimp only[fa,ll,gp,TP,Tw,OH,OF,To,br,lr,br]
 (repeat' (first|with_reducible (first|refine AG (fun _=>?_) fun _=>?_|refine AD ?_|refine AK ?_ ?_)))<;>exact A0
theorem dQ(x:ByteArray):Ok Tr (ez x):=by
 dsimp only[ez,kL,br,lr,br]
 (repeat' (first|with_reducible (first|refine AG (fun _=>?_) fun _=>?_|refine AD ?_|refine AK ?_ ?_)))<;>exact A0
def KZ(x:Fld):Prop:=(x.card≠5→1≤x.card∧x.card≤4∧x.key=0)∧(x.card=5→x.key=1∨x.key=2∨x.key=3∨x.key=4∨x.key=5∨x.key=7)
theorem o91(x:Fld):Ok (fun b=>b=true→KZ x) (fc x):=by
 unfold KZ
 dsimp only[fc,mh,br,wg,lr,br]
 (repeat' (first|with_reducible (first|refine AG (fun _=>?_) fun _=>?_|refine AD ?_|refine AK ?_ ?_)))<;>(intro h;first|(cases h;done)|(simp only[Yc,YN,XB,Yw,YM]at*;omega))
theorem dw(x:ByteArray)(i a b:Int)(h:0≤i):Ok Tr (L4 x i a b):=by
 dsimp only[L4,UL,vz,lr,A7,F0]
 (repeat' (first|with_reducible (first|refine AG (fun _=>?_) fun _=>?_|refine AD ?_|refine AK ?_ ?_)))<;>exact A0
theorem ZXf(x:ByteArray)(i n:Int)(h:0≤i)(a:i≤2097152)(b:n≤9):Ok Tr (Kb x i n):=by
 have q:Ok Ts (Am (Ks x i n) Ai 0):=by
  refine A8 (fun _:Nat=>True) (fun v:Nat=>(n-v).toNat) trivial ?_ fun v _=>?_
  ·unfold Ai
   omega
  dsimp only[Ks,Ph,br,vs,Au,ln,Aj,cl,wa,wi,br]
  (repeat' (first|with_reducible (first|refine AG (fun _=>?_) fun _=>?_|refine AD ?_)|(with_reducible apply AE;(exact dw _ _ _ _ (by omega));intro _ _)|with_reducible refine AK ?_ ?_))<;>exact A0
 dsimp only[Kb,Vn,U3,VM,lr,lc]
 (repeat' (first|with_reducible (first|refine AG (fun _=>?_) fun _=>?_|refine AD ?_)|(with_reducible apply Bh;(exact q);all_goals(intro _ _;try dsimp only))|with_reducible refine AK ?_ ?_))<;>exact A0
set_option maxRecDepth 20000 in
theorem ZY1(x:ByteArray)(i:Int)(h:0≤i)(h1:i<x.size)(h2:x.size≤1048576):Ok (fun y=>0≤y∧y≤4) (Ot x i):=by
 dsimp only[Ot,UF,br,vg,lr,AC,wi,br,Qf]
 (repeat' (first|with_reducible (first|refine AG (fun _=>?_) fun _=>?_|refine AD ?_|refine Bn ?_ fun _ _ _=>?_)|(with_reducible apply AE;(exact dw _ _ _ _ (by omega));intro _ _)|(with_reducible apply AE;(exact ZXf _ _ _ (by omega) (by omega) (by omega));intro _ _)|(with_reducible apply Bl;(exact fun _=>dw _ _ _ _ (by omega));intro _)|(with_reducible apply Bl;(exact fun _=>ZXf _ _ _ (by omega) (by omega) (by omega));intro _)|with_reducible refine AK ?_ ?_))<;>exact A0
theorem Kk:∀a b:List (List D),AR (a++b)=AR a+AR b
 |[],b=>by rw[Ip,AR,YJ]
 |x::a,b=>by rw[In,AR,AR,Kk a b];omega
theorem TN{α:Type}(e:α→List D){l:List α}{i:Nat}{x:α}(h:l[i]?=some x):AR ((l.take (i+1)).map e)=AR ((l.take i).map e)+Ar (e x)+1:=by
 obtain⟨a,rfl⟩:=Yd.1 h
 rw[Y4 a,EX,Kk]
 simp only[YS,F5,AR]
 omega
theorem Ml{α:Type}(e:α→List D)(l:List α)(i:Nat):AR ((l.take i).map e)≤AR (l.map e):=by
 conv=>rhs;rw[←Hi i l,EX,Kk]
 omega
structure SzV (v:Val):Prop where
 t:v.text.size≤1048576
 l:v.list.length≤1048576
 p:v.pairs.length≤1048576
 s:v.slots.length≤1048576
 r:v.raws.length≤1048576
structure SzN (x:Nt):Prop where
 n:x.name.size≤1048576
 v:SzV x.val
abbrev GU(l:List Nt):Prop:=l.length≤1048576∧∀x∈l,SzN x
structure SzF (x:Fld):Prop where
 n:x.name.size≤1048576
 t:x.type.name.size≤1048576
 u:x.union.size≤1048576
 d:SzV x.dflt
 o:GU x.notes
structure SzM (x:Msg):Prop where
 n:x.name.size≤1048576
 fl:x.fields.length≤1048576
 f:∀y∈x.fields,SzF y
 r:x.reserved.length≤1048576
 gl:x.gone.length≤1048576
 g:∀y∈x.gone,y.size≤1048576
 o:GU x.notes
structure SzI (x:Itm):Prop where
 n:x.name.size≤1048576
 o:GU x.notes
structure SzE (x:Enm):Prop where
 n:x.name.size≤1048576
 il:x.items.length≤1048576
 i:∀y∈x.items,SzI y
 r:x.reserved.length≤1048576
 o:GU x.notes
structure SzT (x:Mth):Prop where
 n:x.name.size≤1048576
 o:GU x.notes
structure SzW (x:Svc):Prop where
 n:x.name.size≤1048576
 ml:x.methods.length≤1048576
 m:∀y∈x.methods,SzT y
 o:GU x.notes
structure SzS (x:Scm):Prop where
 ml:x.messages.length≤1048576
 m:∀y∈x.messages,SzM y
 el:x.enums.length≤1048576
 e:∀y∈x.enums,SzE y
 wl:x.services.length≤1048576
 w:∀y∈x.services,SzW y
theorem Ex{v:Val}(h:Ar (Ag v)≤1048576):SzV v:=by
 have a:=CH (e:=AM) v.list
 have b:=CH (e:=Ay) v.pairs
 have c:=CH (e:=Ap) v.slots
 have d:=CH (e:=AZ) v.raws
 simp only[Ag,Ar,bk]at h
 constructor<;>omega
theorem yt{v:Val}(h:Ar (Ag v)≤1048576):0≤v.bits∧v.bits≤18446744073709551615:=by
 simp only[Ag,Ar,bk]at h
 have:=xU (k:=.u64) (n:=v.bits) (by omega)
 exact this
theorem szN{x:Nt}(h:Ar (BU x)≤1048576):SzN x:=by
 have e:Ar (BU x)=x.name.size+Ar (Ag x.val):=by simp only[BU,Ag,Ar,bk]
 exact⟨by omega,Ex (by omega)⟩
theorem LZ{l:List Nt}(h:AR (l.map BU)≤1048576):GU l:=⟨by have:=CH (e:=BU) l;omega,fun x a=>szN (by have:=CQ (e:=BU) a;omega)⟩
theorem szF{x:Fld}(h:Ar (An x)≤1048576):SzF x:=by
 have e:x.name.size+x.type.name.size+x.union.size+Ar (Ag x.dflt)+AR (x.notes.map BU)≤Ar (An x):=by
  simp only[An,Ag,Ar,bk]
  omega
 exact⟨by omega,by omega,by omega,Ex (by omega),LZ (by omega)⟩
theorem szM{x:Msg}(h:Ar (AB x)≤1048576):SzM x:=by
 simp only[AB,Ar,bk]at h
 have a:=CH (e:=An) x.fields
 have b:=CH (e:=CC) x.reserved
 have c:=CH (e:=AW) x.gone
 exact⟨by omega,by omega,fun y hy=>szF (by have:=CQ (e:=An) hy;omega),by omega,by omega,fun y hy=>by have:=CQ (e:=AW) hy;simp only[AW,Ar,bk]at this;omega,LZ (by omega)⟩
theorem szI{x:Itm}(h:Ar (Cw x)≤1048576):SzI x:=by
 simp only[Cw,Ar,bk]at h
 exact⟨by omega,LZ (by omega)⟩
theorem szE{x:Enm}(h:Ar (Bz x)≤1048576):SzE x:=by
 simp only[Bz,Ar,bk]at h
 have a:=CH (e:=Cw) x.items
 have b:=CH (e:=CC) x.reserved
 exact⟨by omega,by omega,fun y hy=>szI (by have:=CQ (e:=Cw) hy;omega),by omega,LZ (by omega)⟩
theorem szT{x:Mth}(h:Ar (G0 x)≤1048576):SzT x:=by
 simp only[G0,Ar,bk]at h
 exact⟨by omega,LZ (by omega)⟩
theorem szW{x:Svc}(h:Ar (C4 x)≤1048576):SzW x:=by
 simp only[C4,Ar,bk]at h
 have a:=CH (e:=G0) x.methods
 exact⟨by omega,by omega,fun y hy=>szT (by have:=CQ (e:=G0) hy;omega),LZ (by omega)⟩
theorem Gx{x:Scm}(h:Ar (Al x)≤1048576):SzS x:=by
 simp only[Al,Ar,bk]at h
 have a:=CH (e:=AB) x.messages
 have b:=CH (e:=Bz) x.enums
 have c:=CH (e:=C4) x.services
 exact⟨by omega,fun y hy=>szM (by have:=CQ (e:=AB) hy;omega),by omega,fun y hy=>szE (by have:=CQ (e:=Bz) hy;omega),by omega,fun y hy=>szW (by have:=CQ (e:=C4) hy;omega)⟩
theorem iH(x:ByteArray):x.data.toList.length=x.size:=by rw[YW];rfl
theorem Bm{n:Nat}(h:n≤2097152):n<Ai:=by unfold Ai;omega
theorem ZY2(x:ByteArray)(h:x.size≤1048576):Ok Tr (Ti x):=by
 have q:Ok Ts (Am (MG x) Ai 0):=by
  refine A8 (fun v:Int=>0≤v∧v≤x.size+4) (fun v:Int=>(x.size+4-v).toNat) ⟨by omega,by omega⟩ (Bm (by omega)) fun v a=>?_
  dsimp only[MG,Vi,br,vz,vs,Au,ln,Aj,cl,wi,A7,br]
  (repeat' (first|with_reducible (first|refine AG (fun _=>?_) fun _=>?_|refine AD ?_)|(with_reducible apply AE;(exact ZY1 _ _ a.1 A0 h);intro _ _)|with_reducible refine AK ?_ ?_))<;>exact AQ
 dsimp only[Ti,U7,Vj,U9,lr,lc]
 (repeat' (first|with_reducible (first|refine AG (fun _=>?_) fun _=>?_|refine AD ?_)|(with_reducible apply Bh;(exact q);all_goals(intro _ _;try dsimp only))|with_reducible refine AK ?_ ?_))<;>exact A0
theorem nN(x:ByteArray)(h:x.size≤1048576):Ok Tr (L7 x):=by
 dsimp only[L7,Vf,lr,cl]
 (repeat' (first|with_reducible (first|refine AG (fun _=>?_) fun _=>?_|refine AD ?_)|(with_reducible apply AE;(exact ZY2 _ h);intro _ _)|with_reducible refine AK ?_ ?_))<;>exact A0
theorem Te(x:ByteArray)(h:x.size≤1048576):Ok Tr (eu x):=by
 have hl:=iH x
 have q:Ok Ts (Am (Vo x) Ai 1):=by
  refine A8 (fun v:Nat=>v≤1048577) (fun v:Nat=>1048577-v) (by omega) (Bm (by omega)) fun v a=>?_
  dsimp only[Vo,mP,br,vz,vs,Au,ln,Aj,cl,AC,wa,A7,br,ib,F0]
  (repeat' (first|with_reducible (first|refine AG (fun _=>?_) fun _=>?_|refine AD ?_|refine Bn ?_ fun _ _ _=>?_)|(with_reducible apply AE;(exact Sl _);intro _ _)|(with_reducible apply AE;(exact Su _);intro _ _)|(with_reducible apply Bl;(exact fun _=>Sl _);intro _)|(with_reducible apply Bl;(exact fun _=>Su _);intro _)|with_reducible refine AK ?_ ?_))<;>exact AQ
 dsimp only[eu,m9,jm,iS,br,vz,vy,lr,lc,AC,A7,br,F0]
 (repeat' (first|with_reducible (first|refine AG (fun _=>?_) fun _=>?_|refine AD ?_)|(with_reducible apply Bh;(exact q);all_goals(intro _ _;try dsimp only))|(with_reducible apply AE;(exact Sl _);intro _ _)|(with_reducible apply AE;(exact Su _);intro _ _)|(with_reducible apply Bl;(exact fun _=>Sl _);intro _)|(with_reducible apply Bl;(exact fun _=>Su _);intro _)|with_reducible refine AK ?_ ?_))<;>exact A0
theorem ZZL(x:ByteArray)(h:x.size≤1048576):Ok Tr (eB x):=by
 have hl:=iH x
 have q:Ok (Sum.elim (fun b:ByteArray=>b.size≤1048576) Tr) (Am (UP x) Ai (⟨#[]⟩,0)):=by
  refine A8 (fun v:ByteArray×Nat=>v.1.size≤v.2∧v.2≤x.size) (fun v:ByteArray×Nat=>x.size-v.2) ⟨by rw[W2];omega,by omega⟩ (Bm (by omega)) fun v a=>?_
  obtain⟨v,i⟩:=v
  obtain⟨a,hi⟩:=a
  dsimp only at a hi
  dsimp only[UP,lT,br,vz,vs,v2,Au,ln,Aj,ad,cl,wa,ss,A7,br,ib]
  (repeat' (first|with_reducible (first|refine AG (fun _=>?_) fun _=>?_|refine AD ?_|refine Bn ?_ fun _ _ _=>?_)|(with_reducible apply AE;(exact Te _ (by omega));intro _ _)|with_reducible (first|refine xp ?_ ?_|refine AK ?_ ?_)))<;>exact AQ
 dsimp only[eB,lW,l7,lB,br,vz,lr,lc,cl,A7,br]
 (repeat' (first|with_reducible (first|refine AG (fun _=>?_) fun _=>?_|refine AD ?_)|(with_reducible apply Bh;(exact q);all_goals(intro _ _;try dsimp only))|(with_reducible apply AE;(exact Te _ (by assumption));intro _ _)|with_reducible refine AK ?_ ?_))<;>exact A0
set_option maxRecDepth 20000 in
theorem Z0a(x:ByteArray)(h:x.size≤1048576):Ok (fun y=>y.1.size≤1048576∧y.2.size≤1048576) (dY x):=by
 have hl:=iH x
 have q:Ok (Sum.elim Tr (fun y:ByteArray×ByteArray=>y.1.size≤1048576∧y.2.size≤1048576)) (Am (UG x) Ai ((x.size:Int)-1)):=by
  refine A8 (fun v:Int=>-1≤v∧v<x.size) (fun v:Int=>(v+1).toNat) ⟨by omega,by omega⟩ (Bm (by omega)) fun v hv=>?_
  dsimp only[UG,jT,br,vs,Au,ln,Aj,wi,ss,br,Qf]
  (repeat' (first|with_reducible (first|refine AG (fun _=>?_) fun _=>?_|refine AD ?_|refine Bn ?_ fun _ _ _=>?_|refine xp ?_ ?_|refine AK ?_ ?_)))<;>exact AQ
 dsimp only[dY,nj,j9,lU,vz,vs,lr,lc,wi,A7]
 (repeat' (first|with_reducible (first|refine AG (fun _=>?_) fun _=>?_|refine AD ?_)|(with_reducible apply Bh;(exact q);all_goals(intro _ _;try dsimp only))|with_reducible refine AK ?_ ?_))<;>exact AQ
set_option maxRecDepth 20000 in
theorem nL(x:ByteArray)(h:x.size≤1048576):Ok Tr (eA x):=by
 have q:Ok Ts (Am VG Ai (x,0)):=by
  refine A8 (fun v:ByteArray×Nat=>v.1.size≤1048576∧v.2≤120) (fun v:ByteArray×Nat=>120-v.2) ⟨h,by omega⟩ (Bm (by omega)) fun v hv=>?_
  obtain⟨v,i⟩:=v
  obtain⟨hv,hi⟩:=hv
  dsimp only at hv hi
  dsimp only[VG,l8,br,vs,v2,Au,ln,Aj,cl,wa,br]
  (repeat' (first|with_reducible (first|refine AG (fun _=>?_) fun _=>?_|refine AD ?_)|(with_reducible apply AE;(exact Z0a _ hv);intro _ _)|(with_reducible apply AE;(exact dQ _);intro _ _)|with_reducible refine AK ?_ ?_))<;>exact AQ
 dsimp only[eA,lE,jN,i6,br,lr,lc,cl,br]
 (repeat' (first|with_reducible (first|refine AG (fun _=>?_) fun _=>?_|refine AD ?_)|(with_reducible apply Bh;(exact q);all_goals(intro _ _;try dsimp only))|(with_reducible apply AE;(exact ZZL _ h);intro _ _)|with_reducible refine AK ?_ ?_))<;>exact AQ
set_option maxRecDepth 20000 in
theorem KX(x:ByteArray)(h:x.size≤1048576):Ok Tr (eF x):=by
 dsimp only[eF,iV,lr,cl,AC]
 (repeat' (first|with_reducible (first|refine AG (fun _=>?_) fun _=>?_|refine AD ?_)|(with_reducible apply AE;(exact Te _ h);intro _ _)|(with_reducible apply AE;(exact dQ _);intro _ _)|(with_reducible apply Bl;(exact fun _=>Te _ h);intro _)|(with_reducible apply Bl;(exact fun _=>dQ _);intro _)|with_reducible refine AK ?_ ?_))<;>exact AQ
theorem o86(l:List ByteArray)(x:ByteArray)(h:l.length≤1048576):Ok Tr (OA l x):=by
 have q:Ok Ts (Am (MI l x) Ai 0):=by
  refine A8 (fun v:Nat=>v≤l.length) (fun v:Nat=>l.length-v) (by omega) (Bm (by omega)) fun v a=>?_
  dsimp only[MI,UE,br,ix,vz,vs,Au,ln,Aj,wa,Ah,br]
  (repeat' (first|with_reducible (first|refine AG (fun _=>?_) fun _=>?_|refine AD ?_|refine Bn ?_ fun _ _ _=>?_|refine AK ?_ ?_)))<;>exact AQ
 dsimp only[OA,Uv,U4,VC,lr,lc]
 (repeat' (first|with_reducible (first|refine AG (fun _=>?_) fun _=>?_|refine AD ?_)|(with_reducible apply Bh;(exact q);all_goals(intro _ _;try dsimp only))|with_reducible refine AK ?_ ?_))<;>exact AQ
theorem nM(l:List Spn)(x:Int)(h:l.length≤1048576):Ok Tr (eK l x):=by
 have q:Ok Ts (Am (US l x) Ai 0):=by
  refine A8 (fun v:Nat=>v≤l.length) (fun v:Nat=>l.length-v) (by omega) (Bm (by omega)) fun v a=>?_
  dsimp only[US,m8,br,ix,AS,vz,vs,Au,ln,Aj,wa,Ah,br]
  (repeat' (first|with_reducible (first|refine AG (fun _=>?_) fun _=>?_|refine AD ?_|refine Bn ?_ fun _ _ _=>?_|refine Fa ?_ fun _=>?_|refine AK ?_ ?_)))<;>exact AQ
 dsimp only[eK,me,mL,jt,lr,lc]
 (repeat' (first|with_reducible (first|refine AG (fun _=>?_) fun _=>?_|refine AD ?_)|(with_reducible apply Bh;(exact q);all_goals(intro _ _;try dsimp only))|with_reducible refine AK ?_ ?_))<;>exact AQ
theorem Qi(s:Scm)(x:ByteArray)(h:SzS s):Ok (fun y:Int=>y<s.messages.length∧(0≤y→∃m∈s.messages,m.name=x)) (eD s x):=by
 have hm:=h.ml
 have q:Ok (Sum.elim Tr fun y:Int=>y<s.messages.length∧(0≤y→∃m∈s.messages,m.name=x)) (Am (UK s x) Ai 0):=by
  refine A8 (fun v:Nat=>v≤s.messages.length) (fun v:Nat=>s.messages.length-v) (by omega) (Bm (by omega)) fun v a=>?_
  dsimp only[UK,lA,br,ix,vz,wg,vs,Au,ln,Aj,wa,Ah,br]
  (repeat' (first|with_reducible (first|refine AG (fun _=>?_) fun _=>?_|refine AD ?_|refine Bn ?_ fun _ _ _=>?_|refine AK ?_ ?_)))<;>first|exact⟨by omega,fun _=>⟨_,by assumption,Y3 (by assumption)⟩⟩|exact AQ
 dsimp only[eD,km,kZ,jQ,lr,lc]
 (repeat' (first|with_reducible (first|refine AG (fun _=>?_) fun _=>?_|refine AD ?_)|(with_reducible apply Bh;(exact q);all_goals(intro _ _;try dsimp only))|with_reducible refine AK ?_ ?_))<;>first|exact⟨by omega,fun h=>absurd h (by decide)⟩|exact AQ
theorem dy(s:Scm)(x:ByteArray)(h:SzS s):Ok (fun y:Int=>y<s.enums.length∧(0≤y→∃m∈s.enums,m.name=x)) (ee s x):=by
 have hm:=h.el
 have q:Ok (Sum.elim Tr fun y:Int=>y<s.enums.length∧(0≤y→∃m∈s.enums,m.name=x)) (Am (VA s x) Ai 0):=by
  refine A8 (fun v:Nat=>v≤s.enums.length) (fun v:Nat=>s.enums.length-v) (by omega) (Bm (by omega)) fun v a=>?_
  dsimp only[VA,jv,br,ix,vz,wg,vs,Au,ln,Aj,wa,Ah,br]
  (repeat' (first|with_reducible (first|refine AG (fun _=>?_) fun _=>?_|refine AD ?_|refine Bn ?_ fun _ _ _=>?_|refine AK ?_ ?_)))<;>first|exact⟨by omega,fun _=>⟨_,by assumption,Y3 (by assumption)⟩⟩|exact AQ
 dsimp only[ee,jB,jU,kK,lr,lc]
 (repeat' (first|with_reducible (first|refine AG (fun _=>?_) fun _=>?_|refine AD ?_)|(with_reducible apply Bh;(exact q);all_goals(intro _ _;try dsimp only))|with_reducible refine AK ?_ ?_))<;>first|exact⟨by omega,fun h=>absurd h (by decide)⟩|exact AQ
theorem Se(v w:Val)(h:SzV v)(k:SzV w):Ok Tr (eE v w):=by
 obtain⟨_,_,_,_,_⟩:=h
 obtain⟨_,_,_,_,_⟩:=k
 dsimp only[eE,jE,vy,wg,vg,lr,wa,Ah]
 (repeat' (first|with_reducible (first|refine AG (fun _=>?_) fun _=>?_|refine AD ?_|refine AK ?_ ?_)))<;>exact AQ
def oN(v:Val):Prop:=v.list=[]∧v.pairs=[]∧v.slots=[]∧v.raws=[]∧(v.kind=7∨v.kind=8→v.bits=0)∧(¬(v.kind=7∨v.kind=8)→v.text=⟨#[]⟩)
def Nu(n:Int)(v:Val):Prop:=1≤n∧n≤9∧v.kind=n∧oN v
theorem ZU0{n:Int}{v:Val}(h:SzV v)(e:IV n v=some true):Nu n v:=by
 obtain⟨p,q,r,s,t⟩:=h
 have k:v.list.length<4611686018427387904:=by omega
 have l:v.pairs.length<4611686018427387904:=by omega
 have m:v.slots.length<4611686018427387904:=by omega
 have o:v.raws.length<4611686018427387904:=by omega
 have hi:L2 n=some (decide (1≤n)&&decide (n≤9)):=rfl
 dsimp only[IV,Pf,br,vz,vy,wg,lr,cl,AC,A7,br,Oq,UH,vz,vy,wg,lr,Ah,L6,Pc,lr]at e
 rw[hi]at e
 unfold Nu oN
 simp only[Ye]at e
 generalize L7 v.text=w at e
 simp[k,l,m,o]at e
 split at e
 ·cases e
 ·rename_i c
  simp only[not_or,Decidable.not_not,Classical.not_imp,Int.not_lt]at c
  obtain⟨⟨⟨d,f⟩,b⟩,⟨⟨g,i⟩,j⟩,c6⟩:=c
  refine⟨d,f,b,g,i,j,c6,fun a=>?_,fun a=>?_⟩
  ·rw[b]at a
   simp only[a,Yx]at e
   split at e<;>simp_all
  ·rw[b]at a
   simp only[a,Y1]at e
   split at e<;>simp_all
theorem SX(n:Int)(v:Val)(h:SzV v):Ok (fun b=>b=true→Nu n v) (IV n v):=by
 have a:=h.t
 have q:Ok Tr (IV n v):=by
  have c:Ok Tr (L2 n):=⟨_,rfl,trivial⟩
  dsimp only[IV,Pf,br,vz,vy,wg,lr,cl,AC,A7,br]
  (repeat' (first|with_reducible (first|refine AG (fun _=>?_) fun _=>?_|refine AD ?_)|(with_reducible apply AE;(exact c);intro _ _)|(with_reducible apply AE;(exact ZXi _);intro _ _)|(with_reducible apply AE;(exact ZXW _);intro _ _)|(with_reducible apply AE;(exact nN _ a);intro _ _)|(with_reducible apply Bl;(exact fun _=>c);intro _)|(with_reducible apply Bl;(exact fun _=>ZXi _);intro _)|(with_reducible apply Bl;(exact fun _=>ZXW _);intro _)|(with_reducible apply Bl;(exact fun _=>nN _ a);intro _)|with_reducible refine AK ?_ ?_))<;>exact AQ
 obtain⟨b,e,_⟩:=q
 exact⟨b,e,fun d=>ZU0 h (d▸e)⟩
theorem ZXQ(v:Val)(h:SzV v):Ok SzV (Ov v):=by
 dsimp only[Ov,We,br,wg,lr,AC,br]
 (repeat' (first|with_reducible (first|refine AG (fun _=>?_) fun _=>?_|refine AD ?_)|(with_reducible apply AE;(exact ZXd _);intro _ _)|(with_reducible apply Bl;(exact fun _=>ZXd _);intro _)|with_reducible refine AK ?_ ?_))<;>first|exact h|exact⟨h.t,h.l,h.p,h.s,h.r⟩
theorem ZZe(x:Nt)(h:SzN x):Ok Tr (dZ x):=by
 dsimp only[dZ,mJ,wg,lr,cl,AC]
 (repeat' (first|with_reducible (first|refine AG (fun _=>?_) fun _=>?_|refine AD ?_)|(with_reducible apply AE;(exact dI _);intro _ _)|(with_reducible apply AE;(exact SX _ _ h.v);intro _ _)|(with_reducible apply Bl;(exact fun _=>dI _);intro _)|(with_reducible apply Bl;(exact fun _=>SX _ _ h.v);intro _)|with_reducible refine AK ?_ ?_))<;>exact AQ
theorem ZZC(l:List Nt)(n:Int)(h:GU l):Ok Tr (eb l n):=by
 obtain⟨b,a⟩:=h
 have q:Ok Ts (Am (UM l n) Ai 0):=by
  refine A8 (fun v:Nat=>v≤l.length) (fun v:Nat=>l.length-v) (by omega) (Bm (by omega)) fun v c=>?_
  dsimp only[UM,lx,br,ix,AS,vz,vs,vg,Au,ln,Aj,cl,wa,wi,Ah,br]
  (repeat' (first|with_reducible (first|refine AG (fun _=>?_) fun _=>?_|refine AD ?_|refine Bn ?_ fun _ _ _=>?_)|(with_reducible apply AE;(exact dI _);intro _ _)|(with_reducible apply AE;(exact ZZ9 _ _);intro _ _)|(with_reducible apply AE;(exact ZZe _ (a _ (by assumption)));intro _ _)|with_reducible (first|refine Fa ?_ fun _=>?_|refine AK ?_ ?_)))<;>exact AQ
 dsimp only[eb,kR,mq,k9,br,vz,lr,lc,Ah,br]
 (repeat' (first|with_reducible (first|refine AG (fun _=>?_) fun _=>?_|refine AD ?_)|(with_reducible apply Bh;(exact q);all_goals(intro _ _;try dsimp only))|with_reducible refine AK ?_ ?_))<;>exact AQ
theorem Ew(d:ByteArray)(l:List Prb)(b:Bool)(n e:Int)(h:l.length<549755813887):Ok (fun y=>l.length≤y.length∧y.length≤l.length+1∧(b=true→l.length+1≤y.length)) (BF d l b n e):=by
 dsimp only[BF,X8,cA,aW,aY,vz,vw,wg,lr,lc,ap,Ji,fl]
 (repeat' (first|with_reducible (first|refine AG (fun _=>?_) fun _=>?_|refine AD ?_|refine AK ?_ ?_)))<;>first|exact AQ|simp_all
theorem Jg(d:ByteArray)(l:List Prb)(x:List Nt)(t n:Int)(h:l.length<549755813887)(a:GU x):Ok (fun y=>l.length≤y.length∧y.length≤l.length+1) (Hw d l x t n):=by
 dsimp only[Hw,l3,mo,mg,mj,vz,lr,lc,cl,fl]
 (repeat' (first|with_reducible (first|refine AG (fun _=>?_) fun _=>?_|refine AD ?_)|(with_reducible apply AE;(exact ZZC _ _ a);intro _ _)|(with_reducible apply AE;(exact Ew _ _ _ _ _ h);intro _ _)|with_reducible refine AK ?_ ?_))<;>exact AQ
theorem o96(d:ByteArray)(l:List Prb)(x:List Spn)(t n:Int)(h:l.length<500000000000)(f:x.length≤1048576):Ok (fun y=>l.length≤y.length∧y.length≤l.length+2*x.length) (Ox d l x t n):=by
 have q:Ok (Sum.elim (fun y:List Prb=>l.length≤y.length∧y.length≤l.length+2*x.length) No) (Am (VI d x t n) Ai (0,l)):=by
  refine A8 (fun v:Nat×List Prb=>v.1≤x.length∧l.length≤v.2.length∧v.2.length≤l.length+2*v.1) (fun v:Nat×List Prb=>x.length-v.1) ⟨by omega,by simp,by simp⟩ (Bm (by omega)) fun v e=>?_
  obtain⟨i,r⟩:=v
  obtain⟨a,b,c⟩:=e
  dsimp only at a b c
  dsimp only[VI,mb,ke,j4,jj,ku,mm,br,ix,AS,vz,vs,vg,ln,Aj,lc,wa,wi,fl,Ah,br]
  (repeat' (first|with_reducible (first|refine AG (fun _=>?_) fun _=>?_|refine AD ?_|refine Bn ?_ fun _ _ _=>?_)|(with_reducible apply AE;(exact Ew _ _ _ _ _ (by omega));intro _ _)|with_reducible (first|refine Fa ?_ fun _=>?_|refine AK ?_ ?_)))<;>exact AQ
 dsimp only[Ox,jl,m5,vz,lr,lc,fl]
 (repeat' (first|with_reducible (first|refine AG (fun _=>?_) fun _=>?_|refine AD ?_)|(with_reducible apply Bh;(exact q);all_goals(intro _ _;try dsimp only))|with_reducible refine AK ?_ ?_))<;>exact AQ
theorem nK(s:Scm)(w:Int)(h:SzS s):Ok (fun y=>y.length≤3145728) (ea s w):=by
 have a:=h.ml
 have b:=h.el
 have j:=h.wl
 have e:Ok (Sum.elim (fun y:List ByteArray=>y.length≤1048576) No) (Am (Q1 s w) Ai ([],0)):=by
  refine A8 (fun v:List ByteArray×Nat=>v.2≤s.messages.length∧v.1.length≤v.2) (fun v:List ByteArray×Nat=>s.messages.length-v.2) ⟨by omega,by simp⟩ (Bm (by omega)) fun v c=>?_
  obtain⟨r,i⟩:=v
  obtain⟨a,b⟩:=c
  dsimp only at a b
  dsimp only[Q1,XY,br,ix,vz,vy,vw,wg,vs,v2,ln,Aj,ap,wa,fl,Ah,br]
  (repeat' (first|with_reducible (first|refine AG (fun _=>?_) fun _=>?_|refine AD ?_|refine Bn ?_ fun _ _ _=>?_|refine AK ?_ ?_)))<;>exact AQ
 have f:∀r:List ByteArray,r.length≤1048576→Ok (Sum.elim (fun y:List ByteArray=>y.length≤2097152) No) (Am (Rv s w) Ai (r,0)):=by
  intro r d
  refine A8 (fun v:List ByteArray×Nat=>v.2≤s.enums.length∧v.1.length≤1048576+v.2) (fun v:List ByteArray×Nat=>s.enums.length-v.2) ⟨by omega,by simpa using d⟩ (Bm (by omega)) fun v c=>?_
  obtain⟨r,i⟩:=v
  obtain⟨a,b⟩:=c
  dsimp only at a b
  dsimp only[Rv,X5,br,ix,vz,vy,vw,wg,vs,ln,Aj,ap,wa,fl,Ah,br]
  (repeat' (first|with_reducible (first|refine AG (fun _=>?_) fun _=>?_|refine AD ?_|refine Bn ?_ fun _ _ _=>?_|refine AK ?_ ?_)))<;>exact AQ
 have g:∀r:List ByteArray,r.length≤2097152→Ok (Sum.elim (fun y:List ByteArray=>y.length≤3145728) No) (Am (Wl s w) Ai (r,0)):=by
  intro r d
  refine A8 (fun v:List ByteArray×Nat=>v.2≤s.services.length∧v.1.length≤2097152+v.2) (fun v:List ByteArray×Nat=>s.services.length-v.2) ⟨by omega,by simpa using d⟩ (Bm (by omega)) fun v c=>?_
  obtain⟨r,i⟩:=v
  obtain⟨a,b⟩:=c
  dsimp only at a b
  dsimp only[Wl,Zj,br,ix,vz,vy,vw,wg,vs,ln,Aj,ap,wa,fl,Ah,br]
  (repeat' (first|with_reducible (first|refine AG (fun _=>?_) fun _=>?_|refine AD ?_|refine Bn ?_ fun _ _ _=>?_|refine AK ?_ ?_)))<;>exact AQ
 dsimp only[ea,ZB,ao,ZM,bc,Zn,bP,vz,vw,lr,lc,fl,fr]
 (repeat' (first|with_reducible (first|refine AG (fun _=>?_) fun _=>?_|refine AD ?_)|(with_reducible apply Bh;(exact e);all_goals(intro _ _;try dsimp only))|(with_reducible apply Bh;(exact f _ (by assumption));all_goals(intro _ _;try dsimp only))|(with_reducible apply Bh;(exact g _ (by assumption));all_goals(intro _ _;try dsimp only))|with_reducible refine AK ?_ ?_))<;>exact AQ
theorem o63(l:List ByteArray)(h:l.length≤3145728):Ok Tr (eH l):=by
 have q:Ok Ts (Am (VU l) Ai 1):=by
  refine A8 (fun v:Nat=>1≤v∧v≤l.length+1) (fun v:Nat=>l.length+1-v) ⟨by omega,by omega⟩ (by unfold Ai;omega) fun v a=>?_
  dsimp only[VU,bR,br,ix,CF,vz,vs,Au,ln,Aj,wa,wi,Ah,br]
  (repeat' (first|with_reducible (first|refine AG (fun _=>?_) fun _=>?_|refine AD ?_|refine Bn ?_ fun _ _ _=>?_|refine AK ?_ ?_)))<;>exact AQ
 dsimp only[eH,bb,ZF,aK,lr,lc]
 (repeat' (first|with_reducible (first|refine AG (fun _=>?_) fun _=>?_|refine AD ?_)|(with_reducible apply Bh;(exact q);all_goals(intro _ _;try dsimp only))|with_reducible refine AK ?_ ?_))<;>exact AQ
theorem ZZl(l:List ByteArray)(x:ByteArray)(h:l.length≤3145728):Ok Tr (OA l x):=by
 have q:Ok Ts (Am (MI l x) Ai 0):=by
  refine A8 (fun v:Nat=>v≤l.length) (fun v:Nat=>l.length-v) (by omega) (by unfold Ai;omega) fun v a=>?_
  dsimp only[MI,UE,br,ix,vz,vs,Au,ln,Aj,wa,Ah,br]
  (repeat' (first|with_reducible (first|refine AG (fun _=>?_) fun _=>?_|refine AD ?_|refine Bn ?_ fun _ _ _=>?_|refine AK ?_ ?_)))<;>exact AQ
 dsimp only[OA,Uv,U4,VC,lr,lc]
 (repeat' (first|with_reducible (first|refine AG (fun _=>?_) fun _=>?_|refine AD ?_)|(with_reducible apply Bh;(exact q);all_goals(intro _ _;try dsimp only))|with_reducible refine AK ?_ ?_))<;>exact AQ
theorem o64(l k:List ByteArray)(h:l.length≤3145728)(a:k.length≤3145728):Ok Tr (fd l k):=by
 have q:Ok Ts (Am (WF l k) Ai 0):=by
  refine A8 (fun v:Nat=>v≤l.length) (fun v:Nat=>l.length-v) (by omega) (by unfold Ai;omega) fun v b=>?_
  dsimp only[WF,Z8,br,ix,vz,vs,Au,ln,Aj,cl,wa,Ah,br]
  (repeat' (first|with_reducible (first|refine AG (fun _=>?_) fun _=>?_|refine AD ?_|refine Bn ?_ fun _ _ _=>?_)|(with_reducible apply AE;(exact ZZl _ _ a);intro _ _)|with_reducible refine AK ?_ ?_))<;>exact AQ
 dsimp only[fd,XZ,Zg,cm,lr,lc]
 (repeat' (first|with_reducible (first|refine AG (fun _=>?_) fun _=>?_|refine AD ?_)|(with_reducible apply Bh;(exact q);all_goals(intro _ _;try dsimp only))|with_reducible refine AK ?_ ?_))<;>exact AQ
def La(s:Scm)(f:Fld):Prop:=(f.type.kind=9→∃m∈s.enums,m.name=f.type.name)∧(f.type.kind=10→(∃m∈s.messages,m.name=f.type.name)∧f.card≠3)∧1≤f.type.kind∧f.type.kind≤10
theorem o92(s:Scm)(f:Fld)(h:SzS s):Ok (fun b=>b=true→La s f) (fh s f):=by
 unfold La
 dsimp only[fh,l1,br,wg,lr,cl,br]
 (repeat' (first|with_reducible (first|refine AG (fun _=>?_) fun _=>?_|refine AD ?_)|(with_reducible apply AE;(exact dy _ _ h);intro _ _)|(with_reducible apply AE;(exact Qi _ _ h);intro _ _)|with_reducible refine AK ?_ ?_))
 ·intro a
  have d:f.type.kind=9:=Y3 (by assumption)
  have e:=(show _<_∧(_→∃m∈s.enums,m.name=f.type.name)by assumption).2 (Y3 a)
  exact⟨fun _=>e,fun k=>by omega,by omega,by omega⟩
 ·intro a
  have c:f.type.kind=10:=Y3 (by assumption)
  rw[Yc]at a
  have e:=(show _<_∧(_→∃m∈s.messages,m.name=f.type.name)by assumption).2 (Y3 a.1)
  exact⟨fun k=>by omega,fun _=>⟨e,by simpa using a.2⟩,by omega,by omega⟩
 ·intro a
  simp only[Yc,Yw]at a
  exact⟨fun k=>by omega,fun k=>by omega,by omega,by omega⟩
def Nx(f:Fld):Prop:=f.union≠⟨#[]⟩→f.card=2
theorem o93(m:Msg)(i:Nat)(h:SzM m)(hi:i<m.fields.length):Ok (fun b=>b=true→∀f,m.fields[i]?=some f→Nx f) (eU m i):=by
 have hl:=h.fl
 have q:∀e,Ok (Sum.elim (fun b:Bool=>b=true→0<i) Tr) (Am (UT m i e) Ai (false,0)):=by
  intro e
  refine A8 (fun v:Bool×Nat=>v.2≤m.fields.length∧(v.1=true→0<i)) (fun v:Bool×Nat=>m.fields.length-v.2) ⟨by omega,by simp⟩ (Bm (by omega)) fun v k=>?_
  obtain⟨b,j⟩:=v
  obtain⟨c,d⟩:=k
  dsimp only at c d
  dsimp only[UT,kF,br,ix,AS,vz,wg,vs,Au,ln,Aj,wa,Ah,br]
  (repeat' (first|with_reducible (first|refine AG (fun _=>?_) fun _=>?_|refine AD ?_|refine Bn ?_ fun _ _ _=>?_|refine Fa ?_ fun _=>?_|refine AK ?_ ?_)))<;>exact AQ
 dsimp only[eU,jp,i3,li,br,CF,AS,wg,vg,lr,lc,AC,wi,br]
 (repeat' (first|with_reducible (first|refine AG (fun _=>?_) fun _=>?_|refine AD ?_|refine Bn ?_ fun _ _ _=>?_)|(with_reducible apply Bh;(exact q _);all_goals(intro _ _;try dsimp only))|(with_reducible apply AE;(exact KX _ ((h.f _ (by assumption)).u));intro _ _)|(with_reducible apply Bl;(exact fun _=>KX _ ((h.f _ (by assumption)).u));intro _)|with_reducible (first|refine Fa ?_ fun _=>?_|refine AK ?_ ?_)))<;>first|(intro h;cases h;done)|(have he:=‹m.fields[i]?=some _›;intro _ f a;rw[he]at a;cases a;intro g;first|exact absurd (Y3 (by assumption)) g|(simp only[YF,YN,Jq,XB,Yw,YM]at*;omega)|grind)|exact AQ
def If(f:Fld):Prop:=f.hasDefault=true→Nu f.type.kind f.dflt∧f.card=2∧f.union=⟨#[]⟩
theorem o94(s:Scm)(f:Fld)(h:SzS s)(a:SzF f):Ok (fun b=>b=true→If f) (ec s f):=by
 have g:SzV (.mk 0 0 ⟨#[]⟩ [] [] [] []):=by constructor<;>decide
 have he:∀y,y∈s.enums→y.items.length≤1048576:=fun y hy=>(h.e y hy).il
 have q:∀y:Int,0≤y→y<s.enums.length→Ok Ts (Am (Vr s f y) Ai 0):=by
  intro y hy k
  refine A8 (fun v:Nat=>v≤1048576) (fun v:Nat=>1048576-v) (by omega) (Bm (by omega)) fun v l=>?_
  dsimp only[Vr,m6,br,ix,CF,vz,wg,vs,Au,ln,Aj,wa,Ah,br]
  (repeat' (first|with_reducible (first|refine AG (fun _=>?_) fun _=>?_|refine AD ?_|refine Bn ?_ fun _ _ _=>?_|refine AK ?_ ?_)))<;>exact AQ
 have key:∀(c d:Bool),((!((!decide (f.card=2))||(!decide (f.union=⟨#[]⟩))))=true→c=true→Nu f.type.kind f.dflt)→((((!decide (f.card=2))||(!decide (f.union=⟨#[]⟩)))||!c)||!d)=false→If f:=fun c d i j _=>by
  cases c<;>cases d<;>simp_all
 have e:(!f.hasDefault)=true→If f:=fun i j=>by simp_all
 dsimp only[ec,mF,lj,mN,br,wg,lr,lc,cl,AC,br]
 (repeat' (first|with_reducible (first|refine AG (fun _=>?_) fun _=>?_|refine AD ?_)|(with_reducible apply Bh;(exact q _ A0 A0);all_goals(intro _ _;try dsimp only))|(with_reducible apply AE;(exact Se _ _ a.d g);intro _ _)|(with_reducible apply AE;(exact SX _ _ a.d);intro _ _)|(with_reducible apply AE;(exact ZXQ _ a.d);intro _ _)|(with_reducible apply AE;(exact Se _ _ a.d (by solve_by_elim));intro _ _)|(with_reducible apply AE;(exact dy _ _ h);intro _ _)|(with_reducible apply Bl;(exact fun _=>Se _ _ a.d g);intro _)|(with_reducible apply Bl;(exact fun _=>SX _ _ a.d);intro _)|(with_reducible apply Bl;(exact fun _=>ZXQ _ a.d);intro _)|(with_reducible apply Bl;(exact fun _=>Se _ _ a.d (by solve_by_elim));intro _)|(with_reducible apply Bl;(exact fun _=>dy _ _ h);intro _)|with_reducible refine AK ?_ ?_))<;>first|(intro _;exact key _ _ (by assumption) (by assumption))|(intro _;exact e (by assumption))|exact AQ
theorem o87(s:Scm)(m:Msg)(l:List Bool)(h:SzS s)(hm:SzM m)(hl:l.length=s.messages.length):Ok Tr (eV s m l):=by
 have a:=hm.fl
 have q:Ok Ts (Am (Uu s m l) Ai 0):=by
  refine A8 (fun v:Nat=>v≤m.fields.length) (fun v:Nat=>m.fields.length-v) (by omega) (Bm (by omega)) fun v b=>?_
  dsimp only[Uu,jA,br,ix,AS,vz,wg,vs,Au,ln,Aj,cl,wa,Ah,br]
  (repeat' (first|with_reducible (first|refine AG (fun _=>?_) fun _=>?_|refine AD ?_|refine Bn ?_ fun _ _ _=>?_)|(with_reducible apply AE;(exact Qi _ _ h);intro _ _)|with_reducible (first|refine Fa ?_ fun _=>?_|refine AK ?_ ?_)))<;>exact AQ
 dsimp only[eV,mZ,i2,kO,lr,lc]
 (repeat' (first|with_reducible (first|refine AG (fun _=>?_) fun _=>?_|refine AD ?_)|(with_reducible apply Bh;(exact q);all_goals(intro _ _;try dsimp only))|with_reducible refine AK ?_ ?_))<;>exact AQ
theorem xc(s:Scm)(m:Msg)(l:List Bool)(h:SzS s)(hm:SzM m)(hl:l.length=s.messages.length):Ok Tr (Tg s m l):=by
 have a:=hm.fl
 have q:Ok Ts (Am (T9 s m l) Ai 0):=by
  refine A8 (fun v:Nat=>v≤m.fields.length) (fun v:Nat=>m.fields.length-v) (by omega) (Bm (by omega)) fun v b=>?_
  dsimp only[T9,gE,br,ix,vz,wg,vs,vg,Au,ln,Aj,cl,wa,KT,cag,fl,Ah,br,KT]
  (repeat' (first|with_reducible (first|refine AG (fun _=>?_) fun _=>?_|refine AD ?_|refine Bn ?_ fun _ _ _=>?_)|(with_reducible apply AE;(exact Qi _ _ h);intro _ _)|with_reducible refine AK ?_ ?_))<;>exact AQ
 dsimp only[Tg,gR,gV,g9,vz,lr,lc,fl]
 (repeat' (first|with_reducible (first|refine AG (fun _=>?_) fun _=>?_|refine AD ?_)|(with_reducible apply Bh;(exact q);all_goals(intro _ _;try dsimp only))|with_reducible refine AK ?_ ?_))<;>exact AQ
theorem o65(s:Scm)(h:SzS s):Ok (fun y=>y.length=s.messages.length) (ey s):=by
 have g:=h.ml
 have q:∀(v:Nat) (r:List Bool),r.length=s.messages.length→Ok (Sum.elim (fun y:Bool×List Bool=>y.2.length=s.messages.length) No) (Am (RF s v) Ai (false,0,r)):=by
  intro w r e
  refine A8 (fun v:Bool×Nat×List Bool=>v.2.1≤s.messages.length∧v.2.2.length=s.messages.length) (fun v:Bool×Nat×List Bool=>s.messages.length-v.2.1) ⟨by simp,e⟩ (Bm (by simp;omega)) fun v d=>?_
  obtain⟨b,i,r⟩:=v
  obtain⟨c,a⟩:=d
  dsimp only at c a
  dsimp only[RF,ZG,br,AS,vz,vw,wg,vs,v2,ln,Aj,ER,wa,ir,ca,st,rn,fl,Ah,br]
  (repeat' (first|with_reducible (first|refine AG (fun _=>?_) fun _=>?_|refine AD ?_|refine Bn ?_ fun _ _ _=>?_)|(with_reducible apply AE;(exact xc _ _ _ h (h.m _ (by grind)) a);intro _ _)|(with_reducible apply Bl;(exact fun _=>xc _ _ _ h (h.m _ (by grind)) a);intro _)|with_reducible (first|refine Fa ?_ fun _=>?_|refine AK ?_ ?_)))<;>exact AQ
 have f:Ok (Sum.elim (fun y:List Bool=>y.length=s.messages.length) No) (Am (RP s) Ai (true,0,List.replicate s.messages.length false)):=by
  refine A8 (fun v:Bool×Nat×List Bool=>v.2.1≤s.messages.length∧v.2.2.length=s.messages.length) (fun v:Bool×Nat×List Bool=>s.messages.length-v.2.1) ⟨by simp,by simp⟩ (Bm (by simp;omega)) fun v d=>?_
  obtain⟨b,i,r⟩:=v
  obtain⟨c,a⟩:=d
  dsimp only at c a
  dsimp only[RP,ce,bU,bu,br,vz,wg,vs,v2,ln,Aj,lc,wa,fl,Ah,br]
  (repeat' (first|with_reducible (first|refine AG (fun _=>?_) fun _=>?_|refine AD ?_)|(with_reducible apply Bh;(exact q _ _ a);all_goals(intro _ _;try dsimp only))|with_reducible refine AK ?_ ?_))<;>exact AQ
 dsimp only[ey,aH,bl,b0,vz,wg,lr,lc,ms,fl,fr,Ah]
 (repeat' (first|with_reducible (first|refine AG (fun _=>?_) fun _=>?_|refine AD ?_)|(with_reducible apply Bh;(exact f);all_goals(intro _ _;try dsimp only))|with_reducible refine AK ?_ ?_))<;>exact AQ
def C3(l:List Fld)(n:Nat):Prop:=∀(i:Nat) (a b:Fld),i+1<n→l[i]?=some a→l[i+1]?=some b→a.num<b.num
theorem ZBk{l:List Fld}{v:Nat}{a b:Fld}(h:C3 l v)(j:l[v]?=some a)(k:0<v→l[v-1]?=some b∧b.num<a.num):C3 l (v+1):=by
 intro i x y hi c hy
 by_cases e:i+1<v
 ·exact h i x y e c hy
 ·have f:i+1=v:=by omega
  have g:v-1=i:=by omega
  rw[f]at hy
  obtain⟨d,m⟩:=k (by omega)
  rw[g]at d
  rw[j]at hy
  rw[d]at c
  cases c
  cases hy
  exact m
structure GdM0 (s:Scm) (m:Msg):Prop where
 asc:C3 m.fields m.fields.length
 df:∀(j:Nat) (f:Fld),m.fields[j]?=some f→If f∧KZ f∧La s f∧Nx f
def Hd(e:Enm):Prop:=∃x,e.items[0]?=some x∧x.num=0
structure GdM (s:Scm) (m:Msg):Prop where
 asc:C3 m.fields m.fields.length
 df:∀(j:Nat) (f:Fld),m.fields[j]?=some f→If f∧KZ f∧La s f∧Nx f
 en:∀(j:Nat) (e:Enm),s.enums[j]?=some e→Hd e
theorem ZWZ(x:Msg):x.fields.length+x.reserved.length+x.gone.length≤Ar (AB x):=by
 have a:=CH (e:=An) x.fields
 have b:=CH (e:=CC) x.reserved
 have c:=CH (e:=AW) x.gone
 simp only[AB,Ar,bk]
 omega
theorem ZWy(x:Enm):x.items.length+x.reserved.length≤Ar (Bz x):=by
 have a:=CH (e:=Cw) x.items
 have b:=CH (e:=CC) x.reserved
 simp only[Bz,Ar,bk]
 omega
theorem ZUP(x:Svc):x.methods.length≤Ar (C4 x):=by
 have a:=CH (e:=G0) x.methods
 simp only[C4,Ar,bk]
 omega
theorem ZXa(d:ByteArray)(b:Bool)(n e:Int):Ok (fun y=>y.length≤1) (BF d [] b n e):=(Ew d [] b n e (by simp)).mono fun y h=>by simpa using h.2.1
theorem o66(s:Scm)(m:Msg)(l:List Bool)(h:SzS s)(hm:SzM m)(hl:l.length=s.messages.length):Ok (fun y=>y.length≤20*(Ar (AB m)+1)∧(y.length=0→GdM0 s m)) (ek s m l):=by
 have g:=ZWZ m
 have H:=hm.fl
 have q:=hm.r
 have B:=hm.gl
 have F:∀(v:Nat) (r:List Prb) (e:Fld),v≤m.fields.length→Ok (Sum.elim Tr No) (Am (Rj s m l v r e) Ai (false,0)):=by
  intro w r e J
  refine A8 (fun v:Bool×Nat=>v.2≤w) (fun v:Bool×Nat=>w-v.2) (by simp) (Bm (by omega)) fun v k=>?_
  obtain⟨b,i⟩:=v
  dsimp only at k
  dsimp only[Rj,Ze,br,ix,vz,wg,vs,ln,Aj,wa,fl,br]
  (repeat' (first|with_reducible (first|refine AG (fun _=>?_) fun _=>?_|refine AD ?_|refine Bn ?_ fun _ _ _=>?_|refine AK ?_ ?_)))<;>exact AQ
 have E:∀a:List Prb,a.length≤9→Ok (Sum.elim (fun y:List Prb=>y.length≤9+10*m.fields.length∧(y.length=0→GdM0 s m)) No) (Am (RH s m l) Ai (0,a)):=by
  intro a o
  refine A8 (fun v:Nat×List Prb=>v.1≤m.fields.length∧v.2.length≤9+10*v.1∧(v.2.length=0→C3 m.fields v.1∧∀(j:Nat) (f:Fld),j<v.1→m.fields[j]?=some f→If f∧KZ f∧La s f∧Nx f)) (fun v:Nat×List Prb=>m.fields.length-v.1) ⟨by simp,by simpa using o,fun _=>⟨fun i x y hi=>by simp at hi,fun j f n=>by simp at n⟩⟩ (Bm (by omega)) fun v k=>?_
  obtain⟨v,r⟩:=v
  obtain⟨t,u,c⟩:=k
  dsimp only at t u c
  dsimp only[RH,mX,kD,jK,nh,jd,na,kN,nf,lS,mM,mD,lG,lw,ji,jF,kb,bX,XX,X9,aX,bL,bO,Zh,Zv,br,ix,AS,vz,wg,vs,vg,ln,Aj,lc,cl,AC,wa,wi,fl,Ah,br]
  (repeat' (first|with_reducible (first|refine AG (fun _=>?_) fun _=>?_|refine AD ?_|refine Bn ?_ fun _ _ _=>?_)|(with_reducible apply Bh;(exact F _ _ _ (by omega));all_goals(intro _ _;try dsimp only))|(with_reducible apply AE;(exact Ew _ _ _ _ _ (by omega));intro _ _)|(with_reducible apply AE;(exact KX _ (hm.f _ (by assumption)).n);intro _ _)|(with_reducible apply AE;(exact nM _ _ q);intro _ _)|(with_reducible apply AE;(exact o86 _ _ B);intro _ _)|(with_reducible apply AE;(exact o91 _);intro _ _)|(with_reducible apply AE;(exact o92 _ _ h);intro _ _)|(with_reducible apply AE;(exact o93 _ _ hm A0);intro _ _)|(with_reducible apply AE;(exact o94 _ _ h (hm.f _ (by assumption)));intro _ _)|(with_reducible apply AE;(exact Jg _ _ _ _ _ (by omega) (hm.f _ (by assumption)).o);intro _ _)|(with_reducible apply Bl;(exact fun _=>Ew _ _ _ _ _ (by omega));intro _)|(with_reducible apply Bl;(exact fun _=>KX _ (hm.f _ (by assumption)).n);intro _)|(with_reducible apply Bl;(exact fun _=>nM _ _ q);intro _)|(with_reducible apply Bl;(exact fun _=>o86 _ _ B);intro _)|(with_reducible apply Bl;(exact fun _=>o91 _);intro _)|(with_reducible apply Bl;(exact fun _=>o92 _ _ h);intro _)|(with_reducible apply Bl;(exact fun _=>o93 _ _ hm A0);intro _)|(with_reducible apply Bl;(exact fun _=>o94 _ _ h (hm.f _ (by assumption)));intro _)|(with_reducible apply Bl;(exact fun _=>Jg _ _ _ _ _ (by omega) (hm.f _ (by assumption)).o);intro _)|with_reducible (first|refine Fa ?_ fun _=>?_|refine AK ?_ ?_)))
  all_goals try exact A0
  have D:=‹decide (0<(v:Int))=true→m.fields[((v:Int)-1).toNat]?=some (m.fields.getD ((v:Int)-1).toNat Rw.z)∧_›
  have he:=‹m.fields[v]?=some _›
  dsimp only
  refine⟨⟨by exact A0,by omega,fun p=>⟨ZBk (b:=m.fields.getD ((v:Int)-1).toNat Rw.z) (c (by omega)).1 he fun k=>?_,fun j f n d=>?_⟩⟩,by exact A0⟩
  have ev:((v:Int)-1).toNat=v-1:=by omega
  refine⟨ev▸(D (YV (by omega))).1,?_⟩
  rcases Int.lt_or_le (m.fields.getD ((v:Int)-1).toNat Rw.z).num (Fld.num _)with A|z
  ·exact A
  ·exfalso
   have I:=Yc _ _▸And.intro (YV (show(0:Int)<v by omega)) (YV z)
   grind
  ·rcases Nat.lt_or_eq_of_le (Nat.le_of_lt_succ n)with n|rfl
   ·exact(c (by omega)).2 j f n d
   ·rw[he]at d
    cases d
    refine⟨(show _=true→If _ by assumption) (ND fun g=>?_),(show _=true→KZ _ by assumption) (ND fun g=>?_),(show _=true→La s _ by assumption) (ND fun g=>?_),(show _=true→∀f,m.fields[j]?=some f→Nx f by assumption) (ND fun g=>?_) _ he⟩
    all_goals(
     rw[Bool.not_eq_true]at g
     subst g
     simp only[DY,QP]at*
     omega)
  have C:v=m.fields.length:=by exact A0
  subst C
  exact⟨by exact A0,fun p=>⟨(c p).1,fun j f d=>(c p).2 j f (Yd.1 d).1 d⟩⟩
 have G:∀a:List Prb,a.length≤20000000→Ok (Sum.elim (fun y:List Prb=>a.length≤y.length∧y.length≤a.length+m.gone.length) No) (Am (VW s m l) Ai (0,a)):=by
  intro a o
  refine A8 (fun v:Nat×List Prb=>v.1≤m.gone.length∧v.2.length≤a.length+v.1∧a.length≤v.2.length) (fun v:Nat×List Prb=>m.gone.length-v.1) ⟨by simp,by simp,by simp⟩ (Bm (by omega)) fun v k=>?_
  obtain⟨v,r⟩:=v
  obtain⟨t,u,c⟩:=k
  dsimp only at t u c
  dsimp only[VW,kH,la,kl,iW,br,ix,vz,wg,vs,ln,Aj,lc,cl,wa,fl,Ah,br]
  (repeat' (first|with_reducible (first|refine AG (fun _=>?_) fun _=>?_|refine AD ?_|refine Bn ?_ fun _ _ _=>?_)|(with_reducible apply AE;(exact Ew _ _ _ _ _ (by omega));intro _ _)|(with_reducible apply AE;(exact nN _ (hm.g _ (by assumption)));intro _ _)|with_reducible refine AK ?_ ?_))<;>exact AQ
 dsimp only[ek,mw,kA,mf,lI,jM,kv,kY,jX,jO,ni,jG,iO,k7,lK,vz,vy,vw,wg,lr,lc,cl,fl,fr,Ah]
 (repeat' (first|with_reducible (first|refine AG (fun _=>?_) fun _=>?_|refine AD ?_)|(with_reducible apply Bh;(exact E _ A0);all_goals(intro _ _;try dsimp only))|(with_reducible apply Bh;(exact G _ (by omega));all_goals(intro _ _;try dsimp only))|(with_reducible apply AE;(exact nL _ hm.n);intro _ _)|(with_reducible apply AE;(exact ZXa _ _ _ _);intro _ _)|(with_reducible apply AE;(exact Ew _ _ _ _ _ (by omega));intro _ _)|(with_reducible apply AE;(exact Jg _ _ _ _ _ (by omega) hm.o);intro _ _)|(with_reducible apply AE;(exact o96 _ _ _ _ _ (by omega) q);intro _ _)|(with_reducible apply AE;(exact o87 _ _ _ h hm hl);intro _ _)|with_reducible refine AK ?_ ?_))<;>exact AQ
theorem o67(e:Enm)(hm:SzE e):Ok (fun y=>y.length≤20*(Ar (Bz e)+1)∧(y.length=0→Hd e)) (e9 e):=by
 have z:=ZWy e
 have u:=hm.il
 have g:=hm.r
 have q:∀(v:Nat) (r:List Prb) (x:Itm),v≤e.items.length→Ok (Sum.elim Tr No) (Am (Rh e v r x) Ai (false,0)):=by
  intro w r x A
  refine A8 (fun v:Bool×Nat=>v.2≤w) (fun v:Bool×Nat=>w-v.2) (by simp) (Bm (by omega)) fun v f=>?_
  obtain⟨b,i⟩:=v
  dsimp only at f
  dsimp only[Rh,am,br,ix,vz,wg,vs,ln,Aj,wa,fl,br]
  (repeat' (first|with_reducible (first|refine AG (fun _=>?_) fun _=>?_|refine AD ?_|refine Bn ?_ fun _ _ _=>?_|refine AK ?_ ?_)))<;>exact AQ
 have p:∀a:List Prb,a.length≤9→Ok (Sum.elim (fun y:List Prb=>a.length≤y.length∧y.length≤9+10*e.items.length) No) (Am (Rm e) Ai (0,a)):=by
  intro a d
  refine A8 (fun v:Nat×List Prb=>v.1≤e.items.length∧a.length≤v.2.length∧v.2.length≤9+10*v.1) (fun v:Nat×List Prb=>e.items.length-v.1) ⟨by simp,by simp,by simpa using d⟩ (Bm (by omega)) fun v f=>?_
  obtain⟨v,r⟩:=v
  obtain⟨m,o,n⟩:=f
  dsimp only at m n o
  dsimp only[Rm,mT,lF,l5,kg,jc,my,kS,nk,bS,bj,az,X1,cq,XU,Zy,Zm,br,ix,AS,vz,wg,vs,vg,ln,Aj,lc,cl,wa,wi,fl,Ah,br]
  (repeat' (first|with_reducible (first|refine AG (fun _=>?_) fun _=>?_|refine AD ?_|refine Bn ?_ fun _ _ _=>?_)|(with_reducible apply Bh;(exact q _ _ _ (by omega));all_goals(intro _ _;try dsimp only))|(with_reducible apply AE;(exact Ew _ _ _ _ _ (by omega));intro _ _)|(with_reducible apply AE;(exact KX _ (hm.i _ (by assumption)).n);intro _ _)|(with_reducible apply AE;(exact nM _ _ g);intro _ _)|(with_reducible apply AE;(exact Jg _ _ _ _ _ (by omega) (hm.i _ (by assumption)).o);intro _ _)|with_reducible (first|refine Fa ?_ fun _=>?_|refine AK ?_ ?_)))<;>exact AQ
 dsimp only[e9,jf,jH,kB,iN,kM,l2,mK,jg,mi,kE,i1,lD,lm,AS,vz,vy,vw,wg,lr,lc,cl,fl,fr,Ah]
 (repeat' (first|with_reducible (first|refine AG (fun _=>?_) fun _=>?_|refine AD ?_)|(with_reducible apply Bh;(exact p _ A0);all_goals(intro _ _;try dsimp only))|(with_reducible apply AE;(exact nL _ hm.n);intro _ _)|(with_reducible apply AE;(exact Ew _ _ _ _ _ A0);intro _ _)|(with_reducible apply AE;(exact Jg _ _ _ _ _ (by omega) hm.o);intro _ _)|(with_reducible apply AE;(exact o96 _ _ _ _ _ (by omega) g);intro _ _)|with_reducible (first|refine Fa ?_ fun _=>?_|refine AK ?_ ?_)))
 all_goals try exact AQ
 rename_i B a0 C a1 D k x E a3 b a4 F a5 G s
 refine⟨by exact A0,fun t=>?_⟩
 have l:¬(e.items.length:Int)<1:=fun h=>by
  have:=k.2.2 (by simp only[h,Yv,NH])
  omega
 have j:(0:Int)<e.items.length:=by omega
 refine⟨_,(x (YV j)).1,Decidable.not_not.1 fun c=>?_⟩
 have:=a3.2.2 (by simp only[j,c,Yv,Y2,DY,XR])
 omega
theorem o68(s:Scm)(e:Svc)(h:SzS s)(hm:SzW e):Ok (fun y=>y.length≤20*(Ar (C4 e)+1)) (eh s e):=by
 have j:=ZUP e
 have i:=hm.ml
 have g:∀b:List Prb,b.length≤9→Ok (Sum.elim (fun y:List Prb=>y.length≤9+10*e.methods.length) No) (Am (Wf s e) Ai (0,b)):=by
  intro b a
  refine A8 (fun v:Nat×List Prb=>v.1≤e.methods.length∧v.2.length≤9+10*v.1) (fun v:Nat×List Prb=>e.methods.length-v.1) ⟨by simp,by simpa using a⟩ (Bm (by omega)) fun v f=>?_
  obtain⟨v,r⟩:=v
  obtain⟨c,d⟩:=f
  dsimp only at c d
  dsimp only[Wf,kW,lQ,nc,jz,bA,ZS,aj,ah,b7,ZY,bt,aI,Zu,br,ix,AS,vz,wg,vs,vg,ln,Aj,lc,cl,AC,wa,wi,fl,Ah,br]
  (repeat' (first|with_reducible (first|refine AG (fun _=>?_) fun _=>?_|refine AD ?_|refine Bn ?_ fun _ _ _=>?_)|(with_reducible apply AE;(exact Ew _ _ _ _ _ (by omega));intro _ _)|(with_reducible apply AE;(exact Qi _ _ h);intro _ _)|(with_reducible apply AE;(exact KX _ (hm.m _ (by assumption)).n);intro _ _)|(with_reducible apply AE;(exact Jg _ _ _ _ _ (by omega) (hm.m _ (by assumption)).o);intro _ _)|(with_reducible apply Bl;(exact fun _=>Ew _ _ _ _ _ (by omega));intro _)|(with_reducible apply Bl;(exact fun _=>Qi _ _ h);intro _)|(with_reducible apply Bl;(exact fun _=>KX _ (hm.m _ (by assumption)).n);intro _)|(with_reducible apply Bl;(exact fun _=>Jg _ _ _ _ _ (by omega) (hm.m _ (by assumption)).o);intro _)|with_reducible (first|refine Fa ?_ fun _=>?_|refine AK ?_ ?_)))<;>exact AQ
 dsimp only[eh,kQ,mC,mE,lM,ja,ka,lh,mQ,jW,vz,vw,wg,lr,lc,cl,fl,fr,Ah]
 (repeat' (first|with_reducible (first|refine AG (fun _=>?_) fun _=>?_|refine AD ?_)|(with_reducible apply Bh;(exact g _ A0);all_goals(intro _ _;try dsimp only))|(with_reducible apply AE;(exact nL _ hm.n);intro _ _)|(with_reducible apply AE;(exact ZXa _ _ _ _);intro _ _)|(with_reducible apply AE;(exact Ew _ _ _ _ _ (by omega));intro _ _)|(with_reducible apply AE;(exact Jg _ _ _ _ _ (by omega) hm.o);intro _ _)|with_reducible refine AK ?_ ?_))<;>exact AQ
structure Few (s:Scm):Prop where
 m:s.messages.length≤150
 e:s.enums.length≤150
 w:s.services.length≤150
theorem o37{s:Scm}(hs:Ar (Al s)≤1048576):Ok (fun y=>y.length=0→(∀(i:Nat) (m:Msg),s.messages[i]?=some m→GdM0 s m)∧∀(i:Nat) (e:Enm),s.enums[i]?=some e→Hd e) (eO s):=by
 have h:=Gx hs
 have u:=h.ml
 have w:=h.el
 have x:=h.wl
 have t:AR (s.messages.map AB)+AR (s.enums.map Bz)+AR (s.services.map C4)≤1048576:=by
  simp only[Al,Ar,bk]at hs
  omega
 have n:Ok (Sum.elim (fun y:List Prb=>y.length≤9) No) (Am (Wo s) Ai (1,[])):=by
  refine A8 (fun v:Nat×List Prb=>1≤v.1∧v.1≤4∧v.2.length≤2*v.1) (fun v:Nat×List Prb=>4-v.1) ⟨by simp,by simp,by simp⟩ (Bm (by omega)) fun v g=>?_
  obtain⟨v,r⟩:=v
  obtain⟨c,d,f⟩:=g
  dsimp only at c d f
  dsimp only[Wo,bW,Zw,aM,ai,cB,aT,bG,br,vz,wg,vs,ln,Aj,lc,cl,wa,fl,Ah,br]
  (repeat' (first|with_reducible (first|refine AG (fun _=>?_) fun _=>?_|refine AD ?_)|(with_reducible apply AE;(exact nK _ _ h);intro _ _)|(with_reducible apply AE;(exact Ew _ _ _ _ _ (by omega));intro _ _)|(with_reducible apply AE;(exact o63 _ (by assumption));intro _ _)|with_reducible refine AK ?_ ?_))<;>exact AQ
 have o:∀(a:List Prb) (l:List Bool),a.length≤10→l.length=s.messages.length→Ok (Sum.elim (fun y:List Prb=>y.length≤20971540∧(y.length=0→∀(i:Nat) (m:Msg),s.messages[i]?=some m→GdM0 s m)) No) (Am (WL s l) Ai (0,a)):=by
  intro a l b hl
  refine A8 (fun v:Nat×List Prb=>v.1≤s.messages.length∧v.2.length≤10+20*AR ((s.messages.take v.1).map AB)∧(v.2.length=0→∀(i:Nat) (m:Msg),i<v.1→s.messages[i]?=some m→GdM0 s m)) (fun v:Nat×List Prb=>s.messages.length-v.1) ⟨by simp,DI b (QZ _ _),fun _ i m hi=>by simp at hi⟩ (Bm (by omega)) fun v g=>?_
  obtain⟨v,r⟩:=v
  obtain⟨c,d,f⟩:=g
  dsimp only at c d f
  have a1:=Ml AB s.messages v
  have j:=Ml AB s.messages (v+1)
  dsimp only[WL,jJ,bJ,Qa,br,ix,vz,wg,vs,ln,Aj,lc,aq,cl,wa,tw,fl,Ah,br]
  (repeat' (first|with_reducible (first|refine AG (fun _=>?_) fun _=>?_|refine AD ?_|refine Bn ?_ fun _ _ _=>?_)|(with_reducible apply AE;(exact o66 _ _ _ h (h.m _ (by assumption)) hl);intro _ _)|with_reducible refine AK ?_ ?_))<;>first|(have a3:=TN AB ‹s.messages[v]?=some _›;exact AQ)|exact AQ
 have p:∀a:List Prb,a.length≤20971540→Ok (Sum.elim (fun y:List Prb=>a.length≤y.length∧y.length≤41943080∧(y.length=0→∀(i:Nat) (e:Enm),s.enums[i]?=some e→Hd e)) No) (Am (Ww s) Ai (0,a)):=by
  intro a b
  refine A8 (fun v:Nat×List Prb=>v.1≤s.enums.length∧v.2.length≤20971540+20*AR ((s.enums.take v.1).map Bz)∧a.length≤v.2.length∧(v.2.length=0→∀(i:Nat) (e:Enm),i<v.1→s.enums[i]?=some e→Hd e)) (fun v:Nat×List Prb=>s.enums.length-v.1) ⟨by simp,DI b (QZ _ _),by simp,fun _ i e hi=>by simp at hi⟩ (Bm (by omega)) fun v g=>?_
  obtain⟨v,r⟩:=v
  obtain⟨c,d,f,k⟩:=g
  dsimp only at c d f k
  have a1:=Ml Bz s.enums v
  have j:=Ml Bz s.enums (v+1)
  dsimp only[Ww,mS,jr,Pb,br,ix,vz,wg,vs,ln,Aj,lc,aq,cl,wa,tw,fl,Ah,br]
  (repeat' (first|with_reducible (first|refine AG (fun _=>?_) fun _=>?_|refine AD ?_|refine Bn ?_ fun _ _ _=>?_)|(with_reducible apply AE;(exact o67 _ (h.e _ (by assumption)));intro _ _)|with_reducible refine AK ?_ ?_))<;>first|(have a3:=TN Bz ‹s.enums[v]?=some _›;exact AQ)|exact AQ
 have q:∀a:List Prb,a.length≤41943080→Ok (Sum.elim (fun y:List Prb=>a.length≤y.length) No) (Am (RM s) Ai (0,a)):=by
  intro a b
  refine A8 (fun v:Nat×List Prb=>v.1≤s.services.length∧v.2.length≤41943080+20*AR ((s.services.take v.1).map C4)∧a.length≤v.2.length) (fun v:Nat×List Prb=>s.services.length-v.1) ⟨by simp,DI b (QZ _ _),by simp⟩ (Bm (by omega)) fun v g=>?_
  obtain⟨v,r⟩:=v
  obtain⟨c,d,f⟩:=g
  dsimp only at c d f
  have a1:=Ml C4 s.services v
  have j:=Ml C4 s.services (v+1)
  dsimp only[RM,mU,iQ,Pg,br,ix,vz,wg,vs,ln,Aj,lc,aq,cl,wa,tw,fl,Ah,br]
  (repeat' (first|with_reducible (first|refine AG (fun _=>?_) fun _=>?_|refine AD ?_|refine Bn ?_ fun _ _ _=>?_)|(with_reducible apply AE;(exact o68 _ _ h (h.w _ (by assumption)));intro _ _)|with_reducible refine AK ?_ ?_))<;>first|(have a3:=TN C4 ‹s.services[v]?=some _›;exact AQ)|exact AQ
 dsimp only[eO,jx,jk,kh,kn,kw,ng,kf,mI,lY,mB,mO,jw,vz,vw,wg,lr,lc,cl,AC,fl,fr]
 (repeat' (first|with_reducible (first|refine AG (fun _=>?_) fun _=>?_|refine AD ?_)|(with_reducible apply Bh;(exact n);all_goals(intro _ _;try dsimp only))|(with_reducible apply Bh;(exact o _ _ (by omega) (by assumption));all_goals(intro _ _;try dsimp only))|(with_reducible apply Bh;(exact p _ (by omega));all_goals(intro _ _;try dsimp only))|(with_reducible apply Bh;(exact q _ (by omega));all_goals(intro _ _;try dsimp only))|(with_reducible apply AE;(exact nK _ _ h);intro _ _)|(with_reducible apply AE;(exact o64 _ _ (by assumption) (by assumption));intro _ _)|(with_reducible apply AE;(exact o65 _ h);intro _ _)|(with_reducible apply AE;(exact Ew _ _ _ _ _ (by omega));intro _ _)|(with_reducible apply Bl;(exact fun _=>nK _ _ h);intro _)|(with_reducible apply Bl;(exact fun _=>o64 _ _ (by assumption) (by assumption));intro _)|(with_reducible apply Bl;(exact fun _=>o65 _ h);intro _)|(with_reducible apply Bl;(exact fun _=>Ew _ _ _ _ _ (by omega));intro _)|with_reducible refine AK ?_ ?_))<;>exact AQ
theorem o16{s:Scm}(hs:Ar (Al s)≤1048576):Ok (fun b=>b=true→∀(i:Nat) (m:Msg),s.messages[i]?=some m→GdM s m) (Oz s):=by
 have k:Ok (fun b=>b=true→(∀(i:Nat) (m:Msg),s.messages[i]?=some m→GdM0 s m)∧∀(i:Nat) (e:Enm),s.enums[i]?=some e→Hd e) (Oz s):=by
  dsimp only[Oz,aa,vz,wg,lr,cl,Ah]
  (repeat' (first|with_reducible (first|refine AG (fun _=>?_) fun _=>?_|refine AD ?_)|(with_reducible apply AE;(exact o37 hs);intro _ _)|with_reducible refine AK ?_ ?_))<;>exact AQ
 exact k.mono fun b h a i m hm=>⟨((h a).1 i m hm).asc,((h a).1 i m hm).df,(h a).2⟩
end Go.Proofs.YthgmbpciandpiaaGreat
