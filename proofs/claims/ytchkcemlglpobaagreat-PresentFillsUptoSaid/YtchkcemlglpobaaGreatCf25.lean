import Derived.Test.YtchkcemlglpobaaGreatCf24
import Derived.Test.YtchkcemlglpobaaGreatCf00
namespace Go.Proofs.YtchkcemlglpobaaGreat
set_option linter.all false
open Go Go.Eng
def Ok{α:Type}(Q:α→Prop)(o:Option α):Prop:=∃y,o=some y∧Q y
section
variable {α β γ σ ξ ρ:Type} {Q:β→Prop} {P:α→Prop}
theorem Ok.pure{y:β}(h:Q y):Ok Q (some y):=⟨y,rfl,h⟩
theorem Ok.bind{m:Option α}{k:α→Option β}(h:Ok P m)(a:∀y,P y→Ok Q (k y)):Ok Q (m.bind k):=by
 obtain⟨y,rfl,h⟩:=h
 exact a y h
theorem Ok.idx{xs:List α}{i:Nat}{k:α→Option β}(h:i<xs.length)(a:∀x,xs[i]?=some x→x∈xs→Ok Q (k x)):Ok Q (xs[i]?.bind k):=by
 rw[Yb h]
 exact a _ (Yb h) (K8 h)
theorem Ok.ite{c:Prop}{d:Decidable c}{a b:Option β}(h:c→Ok Q a)(e:¬c→Ok Q b):Ok Q (if c then a else b):=by
 split
 ·exact h ‹_›
 ·exact e ‹_›
theorem Ok.br{b:Bool}{x y:Option β}(h:b=true→Ok Q x)(a:b=false→Ok Q y):Ok Q (if b=true then x else y):=by
 cases b
 ·exact a rfl
 ·exact h rfl
theorem Ok.if{c:Prop}{d:Decidable c}{a:Option β}(b:c)(h:Ok Q a):Ok Q (if c then a else none):=by
 rw[if_pos b]
 exact h
theorem Ok.ss{lo hi:Bd}{n:Nat}{a:Option β}(b:lo.c∧hi.c∧lo.vl 0≤hi.vl n∧hi.vl n≤n)(h:Ok Q a):Ok Q (if lo.c∧hi.c∧lo.vl 0≤hi.vl n∧hi.vl n≤n then a else none):=by
 rw[if_pos b]
 exact h
theorem Ok.clg{b:Bool}{m:Option α}{x:Option β}(h:b=true→Ok P m)[Inhabited α](d:(b=true→P (m.getD default))→Ok Q x):Ok Q (if(b=true→m.isSome=true)then x else none):=by
 rw[if_pos fun e=>by obtain⟨y,h,_⟩:=h e;rw[h];rfl]
 refine d fun e=>?_
 obtain⟨y,a,c⟩:=h e
 rw[a]
 exact c
theorem Ok.idxg{b:Bool}{xs:List α}{i:Int}{x:Option β}[Rw α](h:b=true→0≤i∧i<xs.length)(c:(b=true→xs[i.toNat]?=some (xs.getD i.toNat Rw.z)∧xs.getD i.toNat Rw.z∈xs)→Ok Q x):Ok Q (if(b=true→0≤i∧i<xs.length)then x else none):=by
 rw[if_pos h]
 refine c fun e=>?_
 have d:=h e
 have a:i.toNat<xs.length:=by omega
 rw[Yv,Yb a]
 exact⟨rfl,K8 a⟩
theorem Ok.loop{B:σ→Option (Lv σ ξ ρ)}{N:Nat}{v:σ}(I:σ→Prop)(μ:σ→Nat){A:ξ→Prop}{R:ρ→Prop}(d:I v)(hN:μ v<N)
  (hs:∀v,I v→Ok (fun o=>match o with|.nx c=>I c∧μ c<μ v|.ex b=>A b|.rt y=>R y) (B v)):Ok (Sum.elim A R) (Am B N v):=
 wj (fun k v=>I v∧μ v≤k) (Sum.elim A R) (fun k v h=>by
  obtain⟨o,e,a⟩:=hs v h.1
  refine⟨o,e,?_⟩
  cases o with
  |nx c=>exact⟨μ c,by have:=a.2;have:=h.2;omega,a.1,Ye _⟩
  |ex b=>exact a
  |rt y=>exact a) N (μ v) v hN ⟨d,Ye _⟩
theorem Ok.lb{m:Option (ξ ⊕ ρ)}{A:ξ→Prop}{R:ρ→Prop}{f:ξ→Option β}{g:ρ→Option β}(h:Ok (Sum.elim A R) m)(c:∀b,A b→Ok Q (f b))(a:∀r,R r→Ok Q (g r)):Ok Q (m.bind (Sum.elim f g)):=by
 obtain⟨y,rfl,h⟩:=h
 cases y with
 |inl b=>exact c b h
 |inr r=>exact a r h
theorem Ok.mono{a:β→Prop}{o:Option β}(h:Ok Q o)(k:∀y,Q y→a y):Ok a o:=by
 obtain⟨y,b,c⟩:=h
 exact⟨y,b,k y c⟩
theorem Ok.some{o:Option β}(h:Ok Q o):o.isSome=true:=by
 obtain⟨y,a,b⟩:=h
 rw[a]
 rfl
end
abbrev Tr{α:Type}:α→Prop:=fun _=>True
abbrev No{α:Type}:α→Prop:=fun _=>False
abbrev Ts{α β:Type}:α ⊕ β→Prop:=Sum.elim Tr Tr
theorem AF:(⟨#[]⟩:ByteArray).size=0:=rfl
end Go.Proofs.YtchkcemlglpobaaGreat
namespace Go.Proofs.YtchkcemlglpobaaGreat
set_option linter.all false
open Go Go.Eng
theorem O2(x:Int):Ok Tr (tX x):=⟨_,rfl,trivial⟩
theorem Px(x:Int):Ok Tr (tT x):=⟨_,rfl,trivial⟩
theorem sV(x:Val):Ok Tr (ub x):=⟨_,rfl,trivial⟩
theorem sh(x:Int):Ok Tr (Zs x):=⟨_,rfl,trivial⟩
theorem tk(x:Int):Ok Tr (L0 x):=by
 dsimp only[L0,QV,br,lr,br,rem]
 (repeat' (first|with_reducible refine Ok.br (fun _=>?_) (fun _=>?_)|with_reducible refine Ok.pure ?_|with_reducible refine Ok.if ?_ ?_))<;>(first|trivial|assumption|contradiction|omega|solve_by_elim|(simp only[Bool.and_eq_true,Bool.or_eq_true,Bool.not_eq_true',Bool.and_eq_false_iff,Bool.or_eq_false_iff,decide_eq_true_eq,decide_eq_false_iff_not]at*;omega)|grind)
theorem XW(x:ByteArray):Ok Tr (Z0 x):=by
 dsimp only[Z0,gN,P5,Mc,Ma,br,lr,br]
 (repeat' (first|with_reducible refine Ok.br (fun _=>?_) (fun _=>?_)|with_reducible refine Ok.pure ?_|with_reducible refine Ok.if ?_ ?_))<;>(first|trivial|assumption|contradiction|omega|solve_by_elim|(simp only[Bool.and_eq_true,Bool.or_eq_true,Bool.not_eq_true',Bool.and_eq_false_iff,Bool.or_eq_false_iff,decide_eq_true_eq,decide_eq_false_iff_not]at*;omega)|grind)
theorem ZUn(x:ByteArray)(n:Int):Ok Tr (Zf x n):=by
 dsimp only[Zf,fE,bj,P6,PS,L9,L8,PN,br,lr,br]
 (repeat' (first|with_reducible refine Ok.br (fun _=>?_) (fun _=>?_)|with_reducible refine Ok.pure ?_|with_reducible refine Ok.if ?_ ?_))<;>(first|trivial|assumption|contradiction|omega|solve_by_elim|(simp only[Bool.and_eq_true,Bool.or_eq_true,Bool.not_eq_true',Bool.and_eq_false_iff,Bool.or_eq_false_iff,decide_eq_true_eq,decide_eq_false_iff_not]at*;omega)|grind)
theorem XE(x:ByteArray):Ok Tr (Zk x):=by
 dsimp only[Zk,cI,br,lr,br]
 (repeat' (first|with_reducible refine Ok.br (fun _=>?_) (fun _=>?_)|with_reducible refine Ok.pure ?_|with_reducible refine Ok.if ?_ ?_))<;>(first|trivial|assumption|contradiction|omega|solve_by_elim|(simp only[Bool.and_eq_true,Bool.or_eq_true,Bool.not_eq_true',Bool.and_eq_false_iff,Bool.or_eq_false_iff,decide_eq_true_eq,decide_eq_false_iff_not]at*;omega)|grind)
theorem zx(x:Fld):Ok Tr (Zg x):=by
 dsimp only[Zg,gO,br,vw,lr,br]
 (repeat' (first|with_reducible refine Ok.br (fun _=>?_) (fun _=>?_)|with_reducible refine Ok.pure ?_|with_reducible refine Ok.if ?_ ?_))<;>(first|trivial|assumption|contradiction|omega|solve_by_elim|(simp only[Bool.and_eq_true,Bool.or_eq_true,Bool.not_eq_true',Bool.and_eq_false_iff,Bool.or_eq_false_iff,decide_eq_true_eq,decide_eq_false_iff_not]at*;omega)|grind)
theorem XC(x:ByteArray)(i a b:Int)(h:0≤i):Ok Tr (ZK x i a b):=by
 dsimp only[ZK,fa,vz,lr,A7,E5]
 (repeat' (first|with_reducible refine Ok.br (fun _=>?_) (fun _=>?_)|with_reducible refine Ok.pure ?_|with_reducible refine Ok.if ?_ ?_))<;>(first|trivial|assumption|contradiction|omega|solve_by_elim|(simp only[Bool.and_eq_true,Bool.or_eq_true,Bool.not_eq_true',Bool.and_eq_false_iff,Bool.or_eq_false_iff,decide_eq_true_eq,decide_eq_false_iff_not]at*;omega)|grind)
theorem rm(x:ByteArray)(i n:Int)(h:0≤i)(a:i≤2097152)(b:n≤9):Ok Tr (ZW x i n):=by
 have q:Ok Ts (Am (Q8 x i n) Aj 0):=by
  refine Ok.loop (fun _:Nat=>True) (fun v:Nat=>(n-v).toNat) trivial ?_ fun v _=>?_
  ·unfold Aj
   omega
  dsimp only[Q8,fV,br,vs,AC,ln,Al,cl,wa,wi,br]
  (repeat' (first|with_reducible refine Ok.br (fun _=>?_) (fun _=>?_)|with_reducible refine Ok.pure ?_|(with_reducible apply Ok.bind;(exact XC _ _ _ _ (by omega));intro _ _)|with_reducible refine Ok.if ?_ ?_))<;>(first|trivial|assumption|contradiction|omega|solve_by_elim|(simp only[Bool.and_eq_true,Bool.or_eq_true,Bool.not_eq_true',Bool.and_eq_false_iff,Bool.or_eq_false_iff,decide_eq_true_eq,decide_eq_false_iff_not]at*;omega)|grind)
 dsimp only[ZW,fZ,ed,gb,lr,lc]
 (repeat' (first|with_reducible refine Ok.br (fun _=>?_) (fun _=>?_)|with_reducible refine Ok.pure ?_|(with_reducible apply Ok.lb;(exact q);all_goals(intro _ _;try dsimp only))|with_reducible refine Ok.if ?_ ?_))<;>(first|trivial|assumption|contradiction|omega|solve_by_elim|(simp only[Bool.and_eq_true,Bool.or_eq_true,Bool.not_eq_true',Bool.and_eq_false_iff,Bool.or_eq_false_iff,decide_eq_true_eq,decide_eq_false_iff_not]at*;omega)|grind)
set_option maxRecDepth 20000 in
theorem ZTr(x:ByteArray)(i:Int)(h:0≤i)(h1:i<x.size)(h2:x.size≤1048576):Ok (fun y=>0≤y∧y≤4) (Zi x i):=by
 dsimp only[Zi,hJ,br,vg,lr,clg,wi,br,Tk]
 (repeat' (first|with_reducible refine Ok.br (fun _=>?_) (fun _=>?_)|with_reducible refine Ok.pure ?_|with_reducible refine Ok.idx ?_ (fun _ _ _=>?_)|(with_reducible apply Ok.bind;(exact XC _ _ _ _ (by omega));intro _ _)|(with_reducible apply Ok.bind;(exact rm _ _ _ (by omega) (by omega) (by omega));intro _ _)|(with_reducible apply Ok.clg;(exact fun _=>XC _ _ _ _ (by omega));intro _)|(with_reducible apply Ok.clg;(exact fun _=>rm _ _ _ (by omega) (by omega) (by omega));intro _)|with_reducible refine Ok.if ?_ ?_))<;>(first|trivial|assumption|contradiction|omega|solve_by_elim|(simp only[Bool.and_eq_true,Bool.or_eq_true,Bool.not_eq_true',Bool.and_eq_false_iff,Bool.or_eq_false_iff,decide_eq_true_eq,decide_eq_false_iff_not]at*;omega)|grind)
structure SzV (v:Val):Prop where
 t:v.text.size≤1048576
 l:v.list.length≤1048576
 p:v.pairs.length≤1048576
 s:v.slots.length≤1048576
 r:v.raws.length≤1048576
structure SzN (x:Nt):Prop where
 n:x.name.size≤1048576
 v:SzV x.val
abbrev FF(l:List Nt):Prop:=l.length≤1048576∧∀x∈l,SzN x
structure SzF (x:Fld):Prop where
 n:x.name.size≤1048576
 t:x.type.name.size≤1048576
 u:x.union.size≤1048576
 d:SzV x.dflt
 o:FF x.notes
structure SzM (x:Msg):Prop where
 n:x.name.size≤1048576
 fl:x.fields.length≤1048576
 f:∀y∈x.fields,SzF y
 r:x.reserved.length≤1048576
 gl:x.gone.length≤1048576
 g:∀y∈x.gone,y.size≤1048576
 o:FF x.notes
structure SzI (x:Itm):Prop where
 n:x.name.size≤1048576
 o:FF x.notes
structure SzE (x:Enm):Prop where
 n:x.name.size≤1048576
 il:x.items.length≤1048576
 i:∀y∈x.items,SzI y
 r:x.reserved.length≤1048576
 o:FF x.notes
structure SzT (x:Mth):Prop where
 n:x.name.size≤1048576
 o:FF x.notes
structure SzW (x:Svc):Prop where
 n:x.name.size≤1048576
 ml:x.methods.length≤1048576
 m:∀y∈x.methods,SzT y
 o:FF x.notes
structure SzS (x:Scm):Prop where
 ml:x.messages.length≤1048576
 m:∀y∈x.messages,SzM y
 el:x.enums.length≤1048576
 e:∀y∈x.enums,SzE y
 wl:x.services.length≤1048576
 w:∀y∈x.services,SzW y
theorem B4{v:Val}(h:Az (Ag v)≤1048576):SzV v:=by
 have a:=C5 (e:=Aq) v.list
 have b:=C5 (e:=Ar) v.pairs
 have c:=C5 (e:=Ai) v.slots
 have d:=C5 (e:=Ay) v.raws
 simp only[Ag,Az,bk]at h
 constructor<;>omega
theorem Tb{v:Val}(h:Az (Ag v)≤1048576):0≤v.bits∧v.bits≤18446744073709551615:=by
 simp only[Ag,Az,bk]at h
 have:=ZP2 (k:=.u64) (n:=v.bits) (by omega)
 exact this
theorem szN{x:Nt}(h:Az (AG x)≤1048576):SzN x:=by
 have e:Az (AG x)=x.name.size+Az (Ag x.val):=by simp only[AG,Ag,Az,bk]
 exact⟨by omega,B4 (by omega)⟩
theorem Js{l:List Nt}(h:Bj (l.map AG)≤1048576):FF l:=⟨by have:=C5 (e:=AG) l;omega,fun x a=>szN (by have:=CE (e:=AG) a;omega)⟩
theorem szF{x:Fld}(h:Az (Ap x)≤1048576):SzF x:=by
 have e:x.name.size+x.type.name.size+x.union.size+Az (Ag x.dflt)+Bj (x.notes.map AG)≤Az (Ap x):=by
  simp only[Ap,Ag,Az,bk]
  omega
 exact⟨by omega,by omega,by omega,B4 (by omega),Js (by omega)⟩
theorem szM{x:Msg}(h:Az (Aw x)≤1048576):SzM x:=by
 simp only[Aw,Az,bk]at h
 have a:=C5 (e:=Ap) x.fields
 have b:=C5 (e:=AW) x.reserved
 have c:=C5 (e:=AE) x.gone
 exact⟨by omega,by omega,fun y hy=>szF (by have:=CE (e:=Ap) hy;omega),by omega,by omega,fun y hy=>by have:=CE (e:=AE) hy;simp only[AE,Az,bk]at this;omega,Js (by omega)⟩
theorem szI{x:Itm}(h:Az (EZ x)≤1048576):SzI x:=by
 simp only[EZ,Az,bk]at h
 exact⟨by omega,Js (by omega)⟩
theorem szE{x:Enm}(h:Az (AO x)≤1048576):SzE x:=by
 simp only[AO,Az,bk]at h
 have a:=C5 (e:=EZ) x.items
 have b:=C5 (e:=AW) x.reserved
 exact⟨by omega,by omega,fun y hy=>szI (by have:=CE (e:=EZ) hy;omega),by omega,Js (by omega)⟩
theorem szT{x:Mth}(h:Az (FD x)≤1048576):SzT x:=by
 simp only[FD,Az,bk]at h
 exact⟨by omega,Js (by omega)⟩
theorem szW{x:Svc}(h:Az (AS x)≤1048576):SzW x:=by
 simp only[AS,Az,bk]at h
 have a:=C5 (e:=FD) x.methods
 exact⟨by omega,by omega,fun y hy=>szT (by have:=CE (e:=FD) hy;omega),Js (by omega)⟩
theorem zK{x:Scm}(h:Az (As x)≤1048576):SzS x:=by
 simp only[As,Az,bk]at h
 have a:=C5 (e:=Aw) x.messages
 have b:=C5 (e:=AO) x.enums
 have c:=C5 (e:=AS) x.services
 exact⟨by omega,fun y hy=>szM (by have:=CE (e:=Aw) hy;omega),by omega,fun y hy=>szE (by have:=CE (e:=AO) hy;omega),by omega,fun y hy=>szW (by have:=CE (e:=AS) hy;omega)⟩
theorem bY(x:ByteArray):x.data.toList.length=x.size:=by rw[YI];rfl
theorem AX{n:Nat}(h:n≤2097152):n<Aj:=by unfold Aj;omega
theorem ZT3(x:ByteArray)(h:x.size≤1048576):Ok Tr (Z4 x):=by
 have q:Ok Ts (Am (QG x) Aj 0):=by
  refine Ok.loop (fun v:Int=>0≤v∧v≤x.size+4) (fun v:Int=>(x.size+4-v).toNat) ⟨by omega,by omega⟩ (AX (by omega)) fun v a=>?_
  dsimp only[QG,iA,br,vz,vs,AC,ln,Al,cl,wi,A7,br]
  (repeat' (first|with_reducible refine Ok.br (fun _=>?_) (fun _=>?_)|with_reducible refine Ok.pure ?_|(with_reducible apply Ok.bind;(exact ZTr _ _ a.1 (by(first|trivial|assumption|contradiction|omega|solve_by_elim|(simp only[Bool.and_eq_true,Bool.or_eq_true,Bool.not_eq_true',Bool.and_eq_false_iff,Bool.or_eq_false_iff,decide_eq_true_eq,decide_eq_false_iff_not]at*;omega)|grind)) h);intro _ _)|with_reducible refine Ok.if ?_ ?_))<;>(first|trivial|assumption|contradiction|omega|grind|(simp only[Bd.c,Bd.vl,ByteArray.size_append,ByteArray.size_extract,AF]at*;grind))
 dsimp only[Z4,im,iG,fK,lr,lc]
 (repeat' (first|with_reducible refine Ok.br (fun _=>?_) (fun _=>?_)|with_reducible refine Ok.pure ?_|(with_reducible apply Ok.lb;(exact q);all_goals(intro _ _;try dsimp only))|with_reducible refine Ok.if ?_ ?_))<;>(first|trivial|assumption|contradiction|omega|solve_by_elim|(simp only[Bool.and_eq_true,Bool.or_eq_true,Bool.not_eq_true',Bool.and_eq_false_iff,Bool.or_eq_false_iff,decide_eq_true_eq,decide_eq_false_iff_not]at*;omega)|grind)
theorem jw(x:ByteArray)(h:x.size≤1048576):Ok Tr (Zv x):=by
 dsimp only[Zv,dk,lr,cl]
 (repeat' (first|with_reducible refine Ok.br (fun _=>?_) (fun _=>?_)|with_reducible refine Ok.pure ?_|(with_reducible apply Ok.bind;(exact ZT3 _ h);intro _ _)|with_reducible refine Ok.if ?_ ?_))<;>(first|trivial|assumption|contradiction|omega|solve_by_elim|(simp only[Bool.and_eq_true,Bool.or_eq_true,Bool.not_eq_true',Bool.and_eq_false_iff,Bool.or_eq_false_iff,decide_eq_true_eq,decide_eq_false_iff_not]at*;omega)|grind)
theorem O7(x:ByteArray)(h:x.size≤1048576):Ok Tr (Zp x):=by
 have hl:=bY x
 have q:Ok Ts (Am (QD x) Aj 1):=by
  refine Ok.loop (fun v:Nat=>v≤1048577) (fun v:Nat=>1048577-v) (by omega) (AX (by omega)) fun v a=>?_
  dsimp only[QD,fs,br,vz,vs,AC,ln,Al,cl,clg,wa,A7,br,ib,E5]
  (repeat' (first|with_reducible refine Ok.br (fun _=>?_) (fun _=>?_)|with_reducible refine Ok.pure ?_|with_reducible refine Ok.idx ?_ (fun _ _ _=>?_)|(with_reducible apply Ok.bind;(exact O2 _);intro _ _)|(with_reducible apply Ok.bind;(exact Px _);intro _ _)|(with_reducible apply Ok.clg;(exact fun _=>O2 _);intro _)|(with_reducible apply Ok.clg;(exact fun _=>Px _);intro _)|with_reducible refine Ok.if ?_ ?_))<;>(first|trivial|assumption|contradiction|omega|grind|(simp only[Bd.c,Bd.vl,ByteArray.size_append,ByteArray.size_extract,AF]at*;grind))
 dsimp only[Zp,iC,iY,iK,br,vz,vy,lr,lc,clg,A7,br,E5]
 (repeat' (first|with_reducible refine Ok.br (fun _=>?_) (fun _=>?_)|with_reducible refine Ok.pure ?_|(with_reducible apply Ok.lb;(exact q);all_goals(intro _ _;try dsimp only))|(with_reducible apply Ok.bind;(exact O2 _);intro _ _)|(with_reducible apply Ok.bind;(exact Px _);intro _ _)|(with_reducible apply Ok.clg;(exact fun _=>O2 _);intro _)|(with_reducible apply Ok.clg;(exact fun _=>Px _);intro _)|with_reducible refine Ok.if ?_ ?_))<;>(first|trivial|assumption|contradiction|omega|solve_by_elim|(simp only[Bool.and_eq_true,Bool.or_eq_true,Bool.not_eq_true',Bool.and_eq_false_iff,Bool.or_eq_false_iff,decide_eq_true_eq,decide_eq_false_iff_not]at*;omega)|grind)
theorem ZS9(x:ByteArray)(h:x.size≤1048576):Ok Tr (Zo x):=by
 have hl:=bY x
 have q:Ok (Sum.elim (fun b:ByteArray=>b.size≤1048576) Tr) (Am (QR x) Aj (⟨#[]⟩,0)):=by
  refine Ok.loop (fun v:ByteArray×Nat=>v.1.size≤v.2∧v.2≤x.size) (fun v:ByteArray×Nat=>x.size-v.2) ⟨by rw[AF];omega,by omega⟩ (AX (by omega)) fun v a=>?_
  obtain⟨v,i⟩:=v
  obtain⟨a,hi⟩:=a
  dsimp only at a hi
  dsimp only[QR,dE,br,vz,vs,v2,AC,ln,Al,ad,cl,wa,ss,A7,br,ib]
  (repeat' (first|with_reducible refine Ok.br (fun _=>?_) (fun _=>?_)|with_reducible refine Ok.pure ?_|with_reducible refine Ok.idx ?_ (fun _ _ _=>?_)|(with_reducible apply Ok.bind;(exact O7 _ (by omega));intro _ _)|with_reducible refine Ok.ss ?_ ?_|with_reducible refine Ok.if ?_ ?_))<;>(first|trivial|assumption|contradiction|omega|grind|(simp only[Bd.c,Bd.vl,ByteArray.size_append,ByteArray.size_extract,AF]at*;grind))
 dsimp only[Zo,iL,i7,dT,br,vz,lr,lc,cl,A7,br]
 (repeat' (first|with_reducible refine Ok.br (fun _=>?_) (fun _=>?_)|with_reducible refine Ok.pure ?_|(with_reducible apply Ok.lb;(exact q);all_goals(intro _ _;try dsimp only))|(with_reducible apply Ok.bind;(exact O7 _ (by assumption));intro _ _)|with_reducible refine Ok.if ?_ ?_))<;>(first|trivial|assumption|contradiction|omega|solve_by_elim|(simp only[Bool.and_eq_true,Bool.or_eq_true,Bool.not_eq_true',Bool.and_eq_false_iff,Bool.or_eq_false_iff,decide_eq_true_eq,decide_eq_false_iff_not]at*;omega)|grind)
set_option maxRecDepth 20000 in
theorem ZTT(x:ByteArray)(h:x.size≤1048576):Ok (fun y=>y.1.size≤1048576∧y.2.size≤1048576) (Zw x):=by
 have hl:=bY x
 have q:Ok (Sum.elim Tr (fun y:ByteArray×ByteArray=>y.1.size≤1048576∧y.2.size≤1048576)) (Am (QA x) Aj ((x.size:Int)-1)):=by
  refine Ok.loop (fun v:Int=>-1≤v∧v<x.size) (fun v:Int=>(v+1).toNat) ⟨by omega,by omega⟩ (AX (by omega)) fun v hv=>?_
  dsimp only[QA,ew,br,vs,AC,ln,Al,wi,ss,br,Tk]
  (repeat' (first|with_reducible refine Ok.br (fun _=>?_) (fun _=>?_)|with_reducible refine Ok.pure ?_|with_reducible refine Ok.idx ?_ (fun _ _ _=>?_)|with_reducible refine Ok.ss ?_ ?_|with_reducible refine Ok.if ?_ ?_))<;>(first|trivial|assumption|contradiction|omega|grind|(simp only[Bd.c,Bd.vl,ByteArray.size_append,ByteArray.size_extract,AF]at*;grind))
 dsimp only[Zw,gY,iq,fg,vz,vs,lr,lc,wi,A7]
 (repeat' (first|with_reducible refine Ok.br (fun _=>?_) (fun _=>?_)|with_reducible refine Ok.pure ?_|(with_reducible apply Ok.lb;(exact q);all_goals(intro _ _;try dsimp only))|with_reducible refine Ok.if ?_ ?_))<;>(first|trivial|assumption|contradiction|omega|grind|(simp only[Bd.c,Bd.vl,ByteArray.size_append,ByteArray.size_extract,AF]at*;grind))
set_option maxRecDepth 20000 in
theorem ju(x:ByteArray)(h:x.size≤1048576):Ok Tr (Zl x):=by
 have q:Ok Ts (Am Rj Aj (x,0)):=by
  refine Ok.loop (fun v:ByteArray×Nat=>v.1.size≤1048576∧v.2≤120) (fun v:ByteArray×Nat=>120-v.2) ⟨h,by omega⟩ (AX (by omega)) fun v hv=>?_
  obtain⟨v,i⟩:=v
  obtain⟨hv,hi⟩:=hv
  dsimp only at hv hi
  dsimp only[Rj,ie,br,vs,v2,AC,ln,Al,cl,wa,br]
  (repeat' (first|with_reducible refine Ok.br (fun _=>?_) (fun _=>?_)|with_reducible refine Ok.pure ?_|(with_reducible apply Ok.bind;(exact ZTT _ hv);intro _ _)|(with_reducible apply Ok.bind;(exact XE _);intro _ _)|with_reducible refine Ok.if ?_ ?_))<;>(first|trivial|assumption|contradiction|omega|grind|(simp only[Bd.c,Bd.vl,ByteArray.size_append,ByteArray.size_extract,AF]at*;grind))
 dsimp only[Zl,de,iv,dy,br,lr,lc,cl,br]
 (repeat' (first|with_reducible refine Ok.br (fun _=>?_) (fun _=>?_)|with_reducible refine Ok.pure ?_|(with_reducible apply Ok.lb;(exact q);all_goals(intro _ _;try dsimp only))|(with_reducible apply Ok.bind;(exact ZS9 _ h);intro _ _)|with_reducible refine Ok.if ?_ ?_))<;>(first|trivial|assumption|contradiction|omega|grind|(simp only[Bd.c,Bd.vl,ByteArray.size_append,ByteArray.size_extract,AF]at*;grind))
set_option maxRecDepth 20000 in
theorem IN(x:ByteArray)(h:x.size≤1048576):Ok Tr (Ze x):=by
 dsimp only[Ze,gA,lr,cl,clg]
 (repeat' (first|with_reducible refine Ok.br (fun _=>?_) (fun _=>?_)|with_reducible refine Ok.pure ?_|(with_reducible apply Ok.bind;(exact O7 _ h);intro _ _)|(with_reducible apply Ok.bind;(exact XE _);intro _ _)|(with_reducible apply Ok.clg;(exact fun _=>O7 _ h);intro _)|(with_reducible apply Ok.clg;(exact fun _=>XE _);intro _)|with_reducible refine Ok.if ?_ ?_))<;>(first|trivial|assumption|contradiction|omega|grind|(simp only[Bd.c,Bd.vl,ByteArray.size_append,ByteArray.size_extract,AF]at*;grind))
theorem zw(l:List ByteArray)(x:ByteArray)(h:l.length≤1048576):Ok Tr (LV l x):=by
 have q:Ok Ts (Am (JY l x) Aj 0):=by
  refine Ok.loop (fun v:Nat=>v≤l.length) (fun v:Nat=>l.length-v) (by omega) (AX (by omega)) fun v a=>?_
  dsimp only[JY,QM,br,ix,vz,vs,AC,ln,Al,wa,Ah,br]
  (repeat' (first|with_reducible refine Ok.br (fun _=>?_) (fun _=>?_)|with_reducible refine Ok.pure ?_|with_reducible refine Ok.idx ?_ (fun _ _ _=>?_)|with_reducible refine Ok.if ?_ ?_))<;>(first|trivial|assumption|contradiction|omega|grind|(simp only[Bd.c,Bd.vl,ByteArray.size_append,ByteArray.size_extract,AF]at*;grind))
 dsimp only[LV,Q9,Rc,QW,lr,lc]
 (repeat' (first|with_reducible refine Ok.br (fun _=>?_) (fun _=>?_)|with_reducible refine Ok.pure ?_|(with_reducible apply Ok.lb;(exact q);all_goals(intro _ _;try dsimp only))|with_reducible refine Ok.if ?_ ?_))<;>(first|trivial|assumption|contradiction|omega|grind|(simp only[Bd.c,Bd.vl,ByteArray.size_append,ByteArray.size_extract,AF]at*;grind))
theorem jv(l:List Spn)(x:Int)(h:l.length≤1048576):Ok Tr (ZE l x):=by
 have q:Ok Ts (Am (Q4 l x) Aj 0):=by
  refine Ok.loop (fun v:Nat=>v≤l.length) (fun v:Nat=>l.length-v) (by omega) (AX (by omega)) fun v a=>?_
  dsimp only[Q4,dl,br,ix,A2,vz,vs,AC,ln,Al,wa,Ah,br]
  (repeat' (first|with_reducible refine Ok.br (fun _=>?_) (fun _=>?_)|with_reducible refine Ok.pure ?_|with_reducible refine Ok.idx ?_ (fun _ _ _=>?_)|with_reducible refine Ok.idxg ?_ (fun _=>?_)|with_reducible refine Ok.if ?_ ?_))<;>(first|trivial|assumption|contradiction|omega|grind|(simp only[Bd.c,Bd.vl,ByteArray.size_append,ByteArray.size_extract,AF]at*;grind))
 dsimp only[ZE,dL,eN,ip,lr,lc]
 (repeat' (first|with_reducible refine Ok.br (fun _=>?_) (fun _=>?_)|with_reducible refine Ok.pure ?_|(with_reducible apply Ok.lb;(exact q);all_goals(intro _ _;try dsimp only))|with_reducible refine Ok.if ?_ ?_))<;>(first|trivial|assumption|contradiction|omega|grind|(simp only[Bd.c,Bd.vl,ByteArray.size_append,ByteArray.size_extract,AF]at*;grind))
theorem Nr(s:Scm)(x:ByteArray)(h:SzS s):Ok (fun y:Int=>y<s.messages.length) (ZC s x):=by
 have hm:=h.ml
 have q:Ok (Sum.elim Tr fun y:Int=>y<s.messages.length) (Am (QX s x) Aj 0):=by
  refine Ok.loop (fun v:Nat=>v≤s.messages.length) (fun v:Nat=>s.messages.length-v) (by omega) (AX (by omega)) fun v a=>?_
  dsimp only[QX,dA,br,ix,vz,vw,vs,AC,ln,Al,wa,Ah,br]
  (repeat' (first|with_reducible refine Ok.br (fun _=>?_) (fun _=>?_)|with_reducible refine Ok.pure ?_|with_reducible refine Ok.idx ?_ (fun _ _ _=>?_)|with_reducible refine Ok.if ?_ ?_))<;>(first|trivial|assumption|contradiction|omega|grind|(simp only[Bd.c,Bd.vl,ByteArray.size_append,ByteArray.size_extract,AF]at*;grind))
 dsimp only[ZC,eW,dw,iV,lr,lc]
 (repeat' (first|with_reducible refine Ok.br (fun _=>?_) (fun _=>?_)|with_reducible refine Ok.pure ?_|(with_reducible apply Ok.lb;(exact q);all_goals(intro _ _;try dsimp only))|with_reducible refine Ok.if ?_ ?_))<;>(first|trivial|assumption|contradiction|omega|grind|(simp only[Bd.c,Bd.vl,ByteArray.size_append,ByteArray.size_extract,AF]at*;grind))
theorem XK(s:Scm)(x:ByteArray)(h:SzS s):Ok (fun y:Int=>y<s.enums.length) (ZI s x):=by
 have hm:=h.el
 have q:Ok (Sum.elim Tr fun y:Int=>y<s.enums.length) (Am (QS s x) Aj 0):=by
  refine Ok.loop (fun v:Nat=>v≤s.enums.length) (fun v:Nat=>s.enums.length-v) (by omega) (AX (by omega)) fun v a=>?_
  dsimp only[QS,fT,br,ix,vz,vw,vs,AC,ln,Al,wa,Ah,br]
  (repeat' (first|with_reducible refine Ok.br (fun _=>?_) (fun _=>?_)|with_reducible refine Ok.pure ?_|with_reducible refine Ok.idx ?_ (fun _ _ _=>?_)|with_reducible refine Ok.if ?_ ?_))<;>(first|trivial|assumption|contradiction|omega|grind|(simp only[Bd.c,Bd.vl,ByteArray.size_append,ByteArray.size_extract,AF]at*;grind))
 dsimp only[ZI,en,h9,dN,lr,lc]
 (repeat' (first|with_reducible refine Ok.br (fun _=>?_) (fun _=>?_)|with_reducible refine Ok.pure ?_|(with_reducible apply Ok.lb;(exact q);all_goals(intro _ _;try dsimp only))|with_reducible refine Ok.if ?_ ?_))<;>(first|trivial|assumption|contradiction|omega|grind|(simp only[Bd.c,Bd.vl,ByteArray.size_append,ByteArray.size_extract,AF]at*;grind))
theorem Oq(v w:Val)(h:SzV v)(k:SzV w):Ok Tr (Zd v w):=by
 obtain⟨_,_,_,_,_⟩:=h
 obtain⟨_,_,_,_,_⟩:=k
 dsimp only[Zd,ic,vy,vw,vg,lr,wa,Ah]
 (repeat' (first|with_reducible refine Ok.br (fun _=>?_) (fun _=>?_)|with_reducible refine Ok.pure ?_|with_reducible refine Ok.if ?_ ?_))<;>(first|trivial|assumption|contradiction|omega|grind|(simp only[Bd.c,Bd.vl,ByteArray.size_append,ByteArray.size_extract,AF]at*;grind))
def KX(n:Int)(v:Val):Prop:=1≤n∧n≤9∧v.kind=n
theorem Jm(n:Int)(v:Val)(h:SzV v):Ok (fun b=>b=true→KX n v) (ZZ n v):=by
 have e:=h.t
 have f:Ok (fun y=>y=true→1≤n∧n≤9) (ZS n):=⟨_,rfl,by simp⟩
 have key:∀(a b c:Bool),(a=true→1≤n∧n≤9)→((!a||!decide (v.kind=n))||!b)=false→KX n v:=fun a b c g d=>by
  simp only[Bool.or_eq_false_iff,Bool.not_eq_false',decide_eq_true_eq]at d
  exact⟨(g d.1.1).1,(g d.1.1).2,d.1.2⟩
 dsimp only[ZZ,dY,br,vz,vy,vw,lr,cl,clg,A7,br]
 (repeat' (first|with_reducible refine Ok.br (fun _=>?_) (fun _=>?_)|with_reducible refine Ok.pure ?_|(with_reducible apply Ok.bind;(exact f);intro _ _)|(with_reducible apply Ok.bind;(exact sV _);intro _ _)|(with_reducible apply Ok.bind;(exact sh _);intro _ _)|(with_reducible apply Ok.bind;(exact jw _ e);intro _ _)|(with_reducible apply Ok.clg;(exact fun _=>f);intro _)|(with_reducible apply Ok.clg;(exact fun _=>sV _);intro _)|(with_reducible apply Ok.clg;(exact fun _=>sh _);intro _)|(with_reducible apply Ok.clg;(exact fun _=>jw _ e);intro _)|with_reducible refine Ok.if ?_ ?_))<;>first|(intro _;exact key _ _ true (by assumption) (by assumption))|(intro _;contradiction)|(first|trivial|assumption|contradiction|omega|grind|(simp only[Bd.c,Bd.vl,ByteArray.size_append,ByteArray.size_extract,AF]at*;grind))
theorem sj(v:Val)(h:SzV v):Ok SzV (ZU v):=by
 dsimp only[ZU,gR,br,vw,lr,clg,br]
 (repeat' (first|with_reducible refine Ok.br (fun _=>?_) (fun _=>?_)|with_reducible refine Ok.pure ?_|(with_reducible apply Ok.bind;(exact tk _);intro _ _)|(with_reducible apply Ok.clg;(exact fun _=>tk _);intro _)|with_reducible refine Ok.if ?_ ?_))<;>first|exact h|exact⟨h.t,h.l,h.p,h.s,h.r⟩
theorem ZTn(x:Nt)(h:SzN x):Ok Tr (Zx x):=by
 dsimp only[Zx,dZ,vw,lr,cl,clg]
 (repeat' (first|with_reducible refine Ok.br (fun _=>?_) (fun _=>?_)|with_reducible refine Ok.pure ?_|(with_reducible apply Ok.bind;(exact XW _);intro _ _)|(with_reducible apply Ok.bind;(exact Jm _ _ h.v);intro _ _)|(with_reducible apply Ok.clg;(exact fun _=>XW _);intro _)|(with_reducible apply Ok.clg;(exact fun _=>Jm _ _ h.v);intro _)|with_reducible refine Ok.if ?_ ?_))<;>(first|trivial|assumption|contradiction|omega|grind|(simp only[Bd.c,Bd.vl,ByteArray.size_append,ByteArray.size_extract,AF]at*;grind))
theorem ZST(l:List Nt)(n:Int)(h:FF l):Ok Tr (Zt l n):=by
 obtain⟨b,a⟩:=h
 have q:Ok Ts (Am (Rg l n) Aj 0):=by
  refine Ok.loop (fun v:Nat=>v≤l.length) (fun v:Nat=>l.length-v) (by omega) (AX (by omega)) fun v c=>?_
  dsimp only[Rg,da,br,ix,A2,vz,vs,vg,AC,ln,Al,cl,wa,wi,Ah,br]
  (repeat' (first|with_reducible refine Ok.br (fun _=>?_) (fun _=>?_)|with_reducible refine Ok.pure ?_|with_reducible refine Ok.idx ?_ (fun _ _ _=>?_)|(with_reducible apply Ok.bind;(exact XW _);intro _ _)|(with_reducible apply Ok.bind;(exact ZUn _ _);intro _ _)|(with_reducible apply Ok.bind;(exact ZTn _ (a _ (by assumption)));intro _ _)|with_reducible refine Ok.idxg ?_ (fun _=>?_)|with_reducible refine Ok.if ?_ ?_))<;>(first|trivial|assumption|contradiction|omega|grind|(simp only[Bd.c,Bd.vl,ByteArray.size_append,ByteArray.size_extract,AF]at*;grind))
 dsimp only[Zt,gT,cO,gU,br,vz,lr,lc,Ah,br]
 (repeat' (first|with_reducible refine Ok.br (fun _=>?_) (fun _=>?_)|with_reducible refine Ok.pure ?_|(with_reducible apply Ok.lb;(exact q);all_goals(intro _ _;try dsimp only))|with_reducible refine Ok.if ?_ ?_))<;>(first|trivial|assumption|contradiction|omega|grind|(simp only[Bd.c,Bd.vl,ByteArray.size_append,ByteArray.size_extract,AF]at*;grind))
theorem Dw(d:ByteArray)(l:List Prb)(b:Bool)(n e:Int)(h:l.length<549755813887):Ok (fun y=>l.length≤y.length∧y.length≤l.length+1∧(b=true→l.length+1≤y.length)) (Bn d l b n e):=by
 dsimp only[Bn,VD,Uf,WX,Up,vz,vw,lr,lc,ap,GE,fl]
 (repeat' (first|with_reducible refine Ok.br (fun _=>?_) (fun _=>?_)|with_reducible refine Ok.pure ?_|with_reducible refine Ok.if ?_ ?_))<;>first|(first|trivial|assumption|contradiction|omega|grind|(simp only[Bd.c,Bd.vl,ByteArray.size_append,ByteArray.size_extract,AF]at*;grind))|simp_all
theorem HG(d:ByteArray)(l:List Prb)(x:List Nt)(t n:Int)(h:l.length<549755813887)(a:FF x):Ok (fun y=>l.length≤y.length∧y.length≤l.length+1) (FY d l x t n):=by
 dsimp only[FY,gv,eu,fM,dq,vz,lr,lc,cl,fl]
 (repeat' (first|with_reducible refine Ok.br (fun _=>?_) (fun _=>?_)|with_reducible refine Ok.pure ?_|(with_reducible apply Ok.bind;(exact ZST _ _ a);intro _ _)|(with_reducible apply Ok.bind;(exact Dw _ _ _ _ _ h);intro _ _)|with_reducible refine Ok.if ?_ ?_))<;>(first|trivial|assumption|contradiction|omega|grind|(simp only[Bd.c,Bd.vl,ByteArray.size_append,ByteArray.size_extract,AF]at*;grind))
theorem zC(d:ByteArray)(l:List Prb)(x:List Spn)(t n:Int)(h:l.length<500000000000)(f:x.length≤1048576):Ok (fun y=>l.length≤y.length∧y.length≤l.length+2*x.length) (LX d l x t n):=by
 have q:Ok (Sum.elim (fun y:List Prb=>l.length≤y.length∧y.length≤l.length+2*x.length) No) (Am (QJ d x t n) Aj (0,l)):=by
  refine Ok.loop (fun v:Nat×List Prb=>v.1≤x.length∧l.length≤v.2.length∧v.2.length≤l.length+2*v.1) (fun v:Nat×List Prb=>x.length-v.1) ⟨by omega,by simp,by simp⟩ (AX (by omega)) fun v e=>?_
  obtain⟨i,r⟩:=v
  obtain⟨a,b,c⟩:=e
  dsimp only at a b c
  dsimp only[QJ,cM,cP,i2,dH,eX,eT,br,ix,A2,vz,vs,vg,ln,Al,lc,wa,wi,fl,Ah,br]
  (repeat' (first|with_reducible refine Ok.br (fun _=>?_) (fun _=>?_)|with_reducible refine Ok.pure ?_|with_reducible refine Ok.idx ?_ (fun _ _ _=>?_)|(with_reducible apply Ok.bind;(exact Dw _ _ _ _ _ (by omega));intro _ _)|with_reducible refine Ok.idxg ?_ (fun _=>?_)|with_reducible refine Ok.if ?_ ?_))<;>(first|trivial|assumption|contradiction|omega|grind|(simp only[Bd.c,Bd.vl,ByteArray.size_append,ByteArray.size_extract,AF]at*;grind))
 dsimp only[LX,fD,eV,vz,lr,lc,fl]
 (repeat' (first|with_reducible refine Ok.br (fun _=>?_) (fun _=>?_)|with_reducible refine Ok.pure ?_|(with_reducible apply Ok.lb;(exact q);all_goals(intro _ _;try dsimp only))|with_reducible refine Ok.if ?_ ?_))<;>(first|trivial|assumption|contradiction|omega|grind|(simp only[Bd.c,Bd.vl,ByteArray.size_append,ByteArray.size_extract,AF]at*;grind))
theorem jt(s:Scm)(w:Int)(h:SzS s):Ok (fun y=>y.length≤3145728) (Zq s w):=by
 have a:=h.ml
 have b:=h.el
 have j:=h.wl
 have e:Ok (Sum.elim (fun y:List ByteArray=>y.length≤1048576) No) (Am (RH s w) Aj ([],0)):=by
  refine Ok.loop (fun v:List ByteArray×Nat=>v.2≤s.messages.length∧v.1.length≤v.2) (fun v:List ByteArray×Nat=>s.messages.length-v.2) ⟨by omega,by simp⟩ (AX (by omega)) fun v c=>?_
  obtain⟨r,i⟩:=v
  obtain⟨a,b⟩:=c
  dsimp only at a b
  dsimp only[RH,Uj,br,ix,vz,vy,vw,vs,v2,ln,Al,ap,wa,fl,Ah,br]
  (repeat' (first|with_reducible refine Ok.br (fun _=>?_) (fun _=>?_)|with_reducible refine Ok.pure ?_|with_reducible refine Ok.idx ?_ (fun _ _ _=>?_)|with_reducible refine Ok.if ?_ ?_))<;>(first|trivial|assumption|contradiction|omega|grind|(simp only[Bd.c,Bd.vl,ByteArray.size_append,ByteArray.size_extract,AF]at*;grind))
 have f:∀r:List ByteArray,r.length≤1048576→Ok (Sum.elim (fun y:List ByteArray=>y.length≤2097152) No) (Am (S7 s w) Aj (r,0)):=by
  intro r d
  refine Ok.loop (fun v:List ByteArray×Nat=>v.2≤s.enums.length∧v.1.length≤1048576+v.2) (fun v:List ByteArray×Nat=>s.enums.length-v.2) ⟨by omega,by simpa using d⟩ (AX (by omega)) fun v c=>?_
  obtain⟨r,i⟩:=v
  obtain⟨a,b⟩:=c
  dsimp only at a b
  dsimp only[S7,Vh,br,ix,vz,vy,vw,vs,ln,Al,ap,wa,fl,Ah,br]
  (repeat' (first|with_reducible refine Ok.br (fun _=>?_) (fun _=>?_)|with_reducible refine Ok.pure ?_|with_reducible refine Ok.idx ?_ (fun _ _ _=>?_)|with_reducible refine Ok.if ?_ ?_))<;>(first|trivial|assumption|contradiction|omega|grind|(simp only[Bd.c,Bd.vl,ByteArray.size_append,ByteArray.size_extract,AF]at*;grind))
 have g:∀r:List ByteArray,r.length≤2097152→Ok (Sum.elim (fun y:List ByteArray=>y.length≤3145728) No) (Am (Sb s w) Aj (r,0)):=by
  intro r d
  refine Ok.loop (fun v:List ByteArray×Nat=>v.2≤s.services.length∧v.1.length≤2097152+v.2) (fun v:List ByteArray×Nat=>s.services.length-v.2) ⟨by omega,by simpa using d⟩ (AX (by omega)) fun v c=>?_
  obtain⟨r,i⟩:=v
  obtain⟨a,b⟩:=c
  dsimp only at a b
  dsimp only[Sb,Us,br,ix,vz,vy,vw,vs,ln,Al,ap,wa,fl,Ah,br]
  (repeat' (first|with_reducible refine Ok.br (fun _=>?_) (fun _=>?_)|with_reducible refine Ok.pure ?_|with_reducible refine Ok.idx ?_ (fun _ _ _=>?_)|with_reducible refine Ok.if ?_ ?_))<;>(first|trivial|assumption|contradiction|omega|grind|(simp only[Bd.c,Bd.vl,ByteArray.size_append,ByteArray.size_extract,AF]at*;grind))
 dsimp only[Zq,UI,U5,Ut,Wv,UE,Vn,vz,vw,lr,lc,fl,fr]
 (repeat' (first|with_reducible refine Ok.br (fun _=>?_) (fun _=>?_)|with_reducible refine Ok.pure ?_|(with_reducible apply Ok.lb;(exact e);all_goals(intro _ _;try dsimp only))|(with_reducible apply Ok.lb;(exact f _ (by assumption));all_goals(intro _ _;try dsimp only))|(with_reducible apply Ok.lb;(exact g _ (by assumption));all_goals(intro _ _;try dsimp only))|with_reducible refine Ok.if ?_ ?_))<;>(first|trivial|assumption|contradiction|omega|grind|(simp only[Bd.c,Bd.vl,ByteArray.size_append,ByteArray.size_extract,AF]at*;grind))
theorem o63(l:List ByteArray)(h:l.length≤3145728):Ok Tr (ZD l):=by
 have q:Ok Ts (Am (S6 l) Aj 1):=by
  refine Ok.loop (fun v:Nat=>1≤v∧v≤l.length+1) (fun v:Nat=>l.length+1-v) ⟨by omega,by omega⟩ (by unfold Aj;omega) fun v a=>?_
  dsimp only[S6,U9,br,ix,Dj,vz,vs,AC,ln,Al,wa,wi,Ah,br]
  (repeat' (first|with_reducible refine Ok.br (fun _=>?_) (fun _=>?_)|with_reducible refine Ok.pure ?_|with_reducible refine Ok.idx ?_ (fun _ _ _=>?_)|with_reducible refine Ok.if ?_ ?_))<;>(first|trivial|assumption|contradiction|omega|grind|(simp only[Bd.c,Bd.vl,ByteArray.size_append,ByteArray.size_extract,AF]at*;grind))
 dsimp only[ZD,V7,Vc,VX,lr,lc]
 (repeat' (first|with_reducible refine Ok.br (fun _=>?_) (fun _=>?_)|with_reducible refine Ok.pure ?_|(with_reducible apply Ok.lb;(exact q);all_goals(intro _ _;try dsimp only))|with_reducible refine Ok.if ?_ ?_))<;>(first|trivial|assumption|contradiction|omega|grind|(simp only[Bd.c,Bd.vl,ByteArray.size_append,ByteArray.size_extract,AF]at*;grind))
theorem ZTB(l:List ByteArray)(x:ByteArray)(h:l.length≤3145728):Ok Tr (LV l x):=by
 have q:Ok Ts (Am (JY l x) Aj 0):=by
  refine Ok.loop (fun v:Nat=>v≤l.length) (fun v:Nat=>l.length-v) (by omega) (by unfold Aj;omega) fun v a=>?_
  dsimp only[JY,QM,br,ix,vz,vs,AC,ln,Al,wa,Ah,br]
  (repeat' (first|with_reducible refine Ok.br (fun _=>?_) (fun _=>?_)|with_reducible refine Ok.pure ?_|with_reducible refine Ok.idx ?_ (fun _ _ _=>?_)|with_reducible refine Ok.if ?_ ?_))<;>(first|trivial|assumption|contradiction|omega|grind|(simp only[Bd.c,Bd.vl,ByteArray.size_append,ByteArray.size_extract,AF]at*;grind))
 dsimp only[LV,Q9,Rc,QW,lr,lc]
 (repeat' (first|with_reducible refine Ok.br (fun _=>?_) (fun _=>?_)|with_reducible refine Ok.pure ?_|(with_reducible apply Ok.lb;(exact q);all_goals(intro _ _;try dsimp only))|with_reducible refine Ok.if ?_ ?_))<;>(first|trivial|assumption|contradiction|omega|grind|(simp only[Bd.c,Bd.vl,ByteArray.size_append,ByteArray.size_extract,AF]at*;grind))
theorem zt(l k:List ByteArray)(h:l.length≤3145728)(a:k.length≤3145728):Ok Tr (Z1 l k):=by
 have q:Ok Ts (Am (Rq l k) Aj 0):=by
  refine Ok.loop (fun v:Nat=>v≤l.length) (fun v:Nat=>l.length-v) (by omega) (by unfold Aj;omega) fun v b=>?_
  dsimp only[Rq,UC,br,ix,vz,vs,AC,ln,Al,cl,wa,Ah,br]
  (repeat' (first|with_reducible refine Ok.br (fun _=>?_) (fun _=>?_)|with_reducible refine Ok.pure ?_|with_reducible refine Ok.idx ?_ (fun _ _ _=>?_)|(with_reducible apply Ok.bind;(exact ZTB _ _ a);intro _ _)|with_reducible refine Ok.if ?_ ?_))<;>(first|trivial|assumption|contradiction|omega|grind|(simp only[Bd.c,Bd.vl,ByteArray.size_append,ByteArray.size_extract,AF]at*;grind))
 dsimp only[Z1,UD,WC,Xa,lr,lc]
 (repeat' (first|with_reducible refine Ok.br (fun _=>?_) (fun _=>?_)|with_reducible refine Ok.pure ?_|(with_reducible apply Ok.lb;(exact q);all_goals(intro _ _;try dsimp only))|with_reducible refine Ok.if ?_ ?_))<;>(first|trivial|assumption|contradiction|omega|grind|(simp only[Bd.c,Bd.vl,ByteArray.size_append,ByteArray.size_extract,AF]at*;grind))
theorem zy(s:Scm)(f:Fld)(h:SzS s):Ok Tr (aa s f):=by
 dsimp only[aa,gn,br,vw,lr,cl,br]
 (repeat' (first|with_reducible refine Ok.br (fun _=>?_) (fun _=>?_)|with_reducible refine Ok.pure ?_|(with_reducible apply Ok.bind;(exact XK _ _ h);intro _ _)|(with_reducible apply Ok.bind;(exact Nr _ _ h);intro _ _)|with_reducible refine Ok.if ?_ ?_))<;>(first|trivial|assumption|contradiction|omega|grind|(simp only[Bd.c,Bd.vl,ByteArray.size_append,ByteArray.size_extract,AF]at*;grind))
theorem zz(m:Msg)(i:Nat)(h:SzM m)(hi:i<m.fields.length):Ok Tr (Zz m i):=by
 have hl:=h.fl
 have q:∀e,Ok (Sum.elim (fun b:Bool=>b=true→0<i) Tr) (Am (QZ m i e) Aj (false,0)):=by
  intro e
  refine Ok.loop (fun v:Bool×Nat=>v.2≤m.fields.length∧(v.1=true→0<i)) (fun v:Bool×Nat=>m.fields.length-v.2) ⟨by omega,by simp⟩ (AX (by omega)) fun v d=>?_
  obtain⟨b,j⟩:=v
  obtain⟨a,c⟩:=d
  dsimp only at a c
  dsimp only[QZ,iB,br,ix,A2,vz,vw,vs,AC,ln,Al,wa,Ah,br]
  (repeat' (first|with_reducible refine Ok.br (fun _=>?_) (fun _=>?_)|with_reducible refine Ok.pure ?_|with_reducible refine Ok.idx ?_ (fun _ _ _=>?_)|with_reducible refine Ok.idxg ?_ (fun _=>?_)|with_reducible refine Ok.if ?_ ?_))<;>(first|trivial|assumption|contradiction|omega|grind|(simp only[Bd.c,Bd.vl,ByteArray.size_append,ByteArray.size_extract,AF]at*;grind))
 dsimp only[Zz,fL,ez,i6,br,Dj,A2,vw,vg,lr,lc,clg,wi,br]
 (repeat' (first|with_reducible refine Ok.br (fun _=>?_) (fun _=>?_)|with_reducible refine Ok.pure ?_|with_reducible refine Ok.idx ?_ (fun _ _ _=>?_)|(with_reducible apply Ok.lb;(exact q _);all_goals(intro _ _;try dsimp only))|(with_reducible apply Ok.bind;(exact IN _ ((h.f _ (by assumption)).u));intro _ _)|(with_reducible apply Ok.clg;(exact fun _=>IN _ ((h.f _ (by assumption)).u));intro _)|with_reducible refine Ok.idxg ?_ (fun _=>?_)|with_reducible refine Ok.if ?_ ?_))<;>(first|trivial|assumption|contradiction|omega|grind|(simp only[Bd.c,Bd.vl,ByteArray.size_append,ByteArray.size_extract,AF]at*;grind))
def HH(f:Fld):Prop:=f.hasDefault=true→KX f.type.kind f.dflt
theorem zA(s:Scm)(f:Fld)(h:SzS s)(e:SzF f):Ok (fun b=>b=true→HH f) (Zr s f):=by
 have i:SzV (.mk 0 0 ⟨#[]⟩ [] [] [] []):=by constructor<;>decide
 have he:∀y,y∈s.enums→y.items.length≤1048576:=fun y hy=>(h.e y hy).il
 have q:∀y:Int,0≤y→y<s.enums.length→Ok Ts (Am (QF s f y) Aj 0):=by
  intro y hy l
  refine Ok.loop (fun v:Nat=>v≤1048576) (fun v:Nat=>1048576-v) (by omega) (AX (by omega)) fun v m=>?_
  dsimp only[QF,ea,br,ix,Dj,vz,vw,vs,AC,ln,Al,wa,Ah,br]
  (repeat' (first|with_reducible refine Ok.br (fun _=>?_) (fun _=>?_)|with_reducible refine Ok.pure ?_|with_reducible refine Ok.idx ?_ (fun _ _ _=>?_)|with_reducible refine Ok.if ?_ ?_))<;>(first|trivial|assumption|contradiction|omega|grind|(simp only[Bd.c,Bd.vl,ByteArray.size_append,ByteArray.size_extract,AF]at*;grind))
 have key:∀(a b c d:Bool),((!(a||b))=true→c=true→KX f.type.kind f.dflt)→(((a||b)||!c)||!d)=false→HH f:=fun a b c d j k _=>by
  cases a<;>cases b<;>cases c<;>cases d<;>simp_all
 have g:(!f.hasDefault)=true→HH f:=fun j k=>by simp_all
 dsimp only[Zr,fh,cL,cX,br,vw,lr,lc,cl,clg,br]
 (repeat' (first|with_reducible refine Ok.br (fun _=>?_) (fun _=>?_)|with_reducible refine Ok.pure ?_|(with_reducible apply Ok.lb;(exact q _ (by(first|trivial|assumption|contradiction|omega|solve_by_elim|(simp only[Bool.and_eq_true,Bool.or_eq_true,Bool.not_eq_true',Bool.and_eq_false_iff,Bool.or_eq_false_iff,decide_eq_true_eq,decide_eq_false_iff_not]at*;omega)|grind)) (by(first|trivial|assumption|contradiction|omega|solve_by_elim|(simp only[Bool.and_eq_true,Bool.or_eq_true,Bool.not_eq_true',Bool.and_eq_false_iff,Bool.or_eq_false_iff,decide_eq_true_eq,decide_eq_false_iff_not]at*;omega)|grind)));all_goals(intro _ _;try dsimp only))|(with_reducible apply Ok.bind;(exact Oq _ _ e.d i);intro _ _)|(with_reducible apply Ok.bind;(exact Jm _ _ e.d);intro _ _)|(with_reducible apply Ok.bind;(exact sj _ e.d);intro _ _)|(with_reducible apply Ok.bind;(exact Oq _ _ e.d (by solve_by_elim));intro _ _)|(with_reducible apply Ok.bind;(exact XK _ _ h);intro _ _)|(with_reducible apply Ok.clg;(exact fun _=>Oq _ _ e.d i);intro _)|(with_reducible apply Ok.clg;(exact fun _=>Jm _ _ e.d);intro _)|(with_reducible apply Ok.clg;(exact fun _=>sj _ e.d);intro _)|(with_reducible apply Ok.clg;(exact fun _=>Oq _ _ e.d (by solve_by_elim));intro _)|(with_reducible apply Ok.clg;(exact fun _=>XK _ _ h);intro _)|with_reducible refine Ok.if ?_ ?_))<;>first|(intro _;exact key _ _ _ _ (by assumption) (by assumption))|(intro _;exact g (by assumption))|(first|trivial|assumption|contradiction|omega|grind|(simp only[Bd.c,Bd.vl,ByteArray.size_append,ByteArray.size_extract,AF]at*;grind))
theorem o87(s:Scm)(m:Msg)(l:List Bool)(h:SzS s)(hm:SzM m)(hl:l.length=s.messages.length):Ok Tr (Zu s m l):=by
 have a:=hm.fl
 have q:Ok Ts (Am (QB s m l) Aj 0):=by
  refine Ok.loop (fun v:Nat=>v≤m.fields.length) (fun v:Nat=>m.fields.length-v) (by omega) (AX (by omega)) fun v b=>?_
  dsimp only[QB,eF,br,ix,A2,vz,vw,vs,AC,ln,Al,cl,wa,Ah,br]
  (repeat' (first|with_reducible refine Ok.br (fun _=>?_) (fun _=>?_)|with_reducible refine Ok.pure ?_|with_reducible refine Ok.idx ?_ (fun _ _ _=>?_)|(with_reducible apply Ok.bind;(exact Nr _ _ h);intro _ _)|with_reducible refine Ok.idxg ?_ (fun _=>?_)|with_reducible refine Ok.if ?_ ?_))<;>(first|trivial|assumption|contradiction|omega|grind|(simp only[Bd.c,Bd.vl,ByteArray.size_append,ByteArray.size_extract,AF]at*;grind))
 dsimp only[Zu,gM,hP,gS,lr,lc]
 (repeat' (first|with_reducible refine Ok.br (fun _=>?_) (fun _=>?_)|with_reducible refine Ok.pure ?_|(with_reducible apply Ok.lb;(exact q);all_goals(intro _ _;try dsimp only))|with_reducible refine Ok.if ?_ ?_))<;>(first|trivial|assumption|contradiction|omega|grind|(simp only[Bd.c,Bd.vl,ByteArray.size_append,ByteArray.size_extract,AF]at*;grind))
theorem nq(s:Scm)(m:Msg)(l:List Bool)(h:SzS s)(hm:SzM m)(hl:l.length=s.messages.length):Ok Tr (PE s m l):=by
 have a:=hm.fl
 have q:Ok Ts (Am (Qa s m l) Aj 0):=by
  refine Ok.loop (fun v:Nat=>v≤m.fields.length) (fun v:Nat=>m.fields.length-v) (by omega) (AX (by omega)) fun v b=>?_
  dsimp only[Qa,bI,br,ix,vz,vw,vs,vg,AC,ln,Al,cl,wa,DS,y8,fl,Ah,br,DS]
  (repeat' (first|with_reducible refine Ok.br (fun _=>?_) (fun _=>?_)|with_reducible refine Ok.pure ?_|with_reducible refine Ok.idx ?_ (fun _ _ _=>?_)|(with_reducible apply Ok.bind;(exact Nr _ _ h);intro _ _)|with_reducible refine Ok.if ?_ ?_))<;>(first|trivial|assumption|contradiction|omega|grind|(simp only[Bd.c,Bd.vl,ByteArray.size_append,ByteArray.size_extract,AF]at*;grind))
 dsimp only[PE,bH,bG,bQ,vz,lr,lc,fl]
 (repeat' (first|with_reducible refine Ok.br (fun _=>?_) (fun _=>?_)|with_reducible refine Ok.pure ?_|(with_reducible apply Ok.lb;(exact q);all_goals(intro _ _;try dsimp only))|with_reducible refine Ok.if ?_ ?_))<;>(first|trivial|assumption|contradiction|omega|grind|(simp only[Bd.c,Bd.vl,ByteArray.size_append,ByteArray.size_extract,AF]at*;grind))
theorem zu(s:Scm)(h:SzS s):Ok (fun y=>y.length=s.messages.length) (Zj s):=by
 have g:=h.ml
 have q:∀(v:Nat) (r:List Bool),r.length=s.messages.length→Ok (Sum.elim (fun y:Bool×List Bool=>y.2.length=s.messages.length) No) (Am (R8 s v) Aj (false,0,r)):=by
  intro w r e
  refine Ok.loop (fun v:Bool×Nat×List Bool=>v.2.1≤s.messages.length∧v.2.2.length=s.messages.length) (fun v:Bool×Nat×List Bool=>s.messages.length-v.2.1) ⟨by simp,e⟩ (AX (by simp;omega)) fun v d=>?_
  obtain⟨b,i,r⟩:=v
  obtain⟨c,a⟩:=d
  dsimp only at c a
  dsimp only[R8,VU,br,A2,vz,vw,vs,v2,ln,Al,Hz,wa,ir,ca,st,rn,fl,Ah,br]
  (repeat' (first|with_reducible refine Ok.br (fun _=>?_) (fun _=>?_)|with_reducible refine Ok.pure ?_|with_reducible refine Ok.idx ?_ (fun _ _ _=>?_)|(with_reducible apply Ok.bind;(exact nq _ _ _ h (h.m _ (by grind)) a);intro _ _)|(with_reducible apply Ok.clg;(exact fun _=>nq _ _ _ h (h.m _ (by grind)) a);intro _)|with_reducible refine Ok.idxg ?_ (fun _=>?_)|with_reducible refine Ok.if ?_ ?_))<;>(first|trivial|assumption|contradiction|omega|grind|(simp only[Bd.c,Bd.vl,ByteArray.size_append,ByteArray.size_extract,AF]at*;grind))
 have f:Ok (Sum.elim (fun y:List Bool=>y.length=s.messages.length) No) (Am (SR s) Aj (true,0,List.replicate s.messages.length false)):=by
  refine Ok.loop (fun v:Bool×Nat×List Bool=>v.2.1≤s.messages.length∧v.2.2.length=s.messages.length) (fun v:Bool×Nat×List Bool=>s.messages.length-v.2.1) ⟨by simp,by simp⟩ (AX (by simp;omega)) fun v d=>?_
  obtain⟨b,i,r⟩:=v
  obtain⟨c,a⟩:=d
  dsimp only at c a
  dsimp only[SR,Xd,VT,VG,br,vz,vw,vs,v2,ln,Al,lc,wa,fl,Ah,br]
  (repeat' (first|with_reducible refine Ok.br (fun _=>?_) (fun _=>?_)|with_reducible refine Ok.pure ?_|(with_reducible apply Ok.lb;(exact q _ _ a);all_goals(intro _ _;try dsimp only))|with_reducible refine Ok.if ?_ ?_))<;>(first|trivial|assumption|contradiction|omega|grind|(simp only[Bd.c,Bd.vl,ByteArray.size_append,ByteArray.size_extract,AF]at*;grind))
 dsimp only[Zj,VZ,VC,UG,vz,vw,lr,lc,ms,fl,fr,Ah]
 (repeat' (first|with_reducible refine Ok.br (fun _=>?_) (fun _=>?_)|with_reducible refine Ok.pure ?_|(with_reducible apply Ok.lb;(exact f);all_goals(intro _ _;try dsimp only))|with_reducible refine Ok.if ?_ ?_))<;>(first|trivial|assumption|contradiction|omega|grind|(simp only[Bd.c,Bd.vl,ByteArray.size_append,ByteArray.size_extract,AF]at*;grind))
end Go.Proofs.YtchkcemlglpobaaGreat
