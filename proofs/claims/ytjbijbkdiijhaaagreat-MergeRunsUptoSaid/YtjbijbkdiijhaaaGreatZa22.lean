import Derived.Test.YtjbijbkdiijhaaaGreatZa21
import Derived.Test.YtjbijbkdiijhaaaGreatZa00
namespace Go.Proofs.YtjbijbkdiijhaaaGreat
set_option linter.all false
open Go Go.Eng
def Ok{α:Type}(Q:α→Prop)(o:Option α):Prop:=∃y,o=some y∧Q y
section
variable {α β γ σ ξ ρ:Type} {Q:β→Prop} {P:α→Prop}
theorem AL{y:β}(h:Q y):Ok Q (some y):=⟨y,rfl,h⟩
theorem AN{m:Option α}{k:α→Option β}(h:Ok P m)(a:∀y,P y→Ok Q (k y)):Ok Q (m.bind k):=by
 obtain⟨y,rfl,h⟩:=h
 exact a y h
theorem BY{xs:List α}{i:Nat}{k:α→Option β}(h:i<xs.length)(a:∀x,xs[i]?=some x→x∈xs→Ok Q (k x)):Ok Q (xs[i]?.bind k):=by
 rw[Ye h]
 exact a _ (Ye h) (Gh h)
theorem AR{b:Bool}{x y:Option β}(h:b=true→Ok Q x)(a:b=false→Ok Q y):Ok Q (if b=true then x else y):=by
 cases b
 ·exact a rfl
 ·exact h rfl
theorem AX{c:Prop}{d:Decidable c}{a:Option β}(b:c)(h:Ok Q a):Ok Q (if c then a else none):=by
 rw[Yj b]
 exact h
theorem xG{lo hi:Bd}{n:Nat}{a:Option β}(b:lo.c∧hi.c∧lo.vl 0≤hi.vl n∧hi.vl n≤n)(h:Ok Q a):Ok Q (if lo.c∧hi.c∧lo.vl 0≤hi.vl n∧hi.vl n≤n then a else none):=by
 rw[Yj b]
 exact h
theorem BB{b:Bool}{m:Option α}{x:Option β}(h:b=true→Ok P m)[Inhabited α](d:(b=true→P (m.getD default))→Ok Q x):Ok Q (if(b=true→m.isSome=true)then x else none):=by
 rw[Yj fun e=>by obtain⟨y,h,_⟩:=h e;rw[h];rfl]
 refine d fun e=>?_
 obtain⟨y,a,c⟩:=h e
 rw[a]
 exact c
theorem Gs{b:Bool}{xs:List α}{i:Int}{x:Option β}[Rw α](h:b=true→0≤i∧i<xs.length)(c:(b=true→xs[i.toNat]?=some (xs.getD i.toNat Rw.z)∧xs.getD i.toNat Rw.z∈xs)→Ok Q x):Ok Q (if(b=true→0≤i∧i<xs.length)then x else none):=by
 rw[Yj h]
 refine c fun e=>?_
 have d:=h e
 have a:i.toNat<xs.length:=by omega
 rw[Yg,Ye a]
 exact⟨rfl,Gh a⟩
theorem BD{B:σ→Option (Lv σ ξ ρ)}{N:Nat}{v:σ}(I:σ→Prop)(μ:σ→Nat){A:ξ→Prop}{R:ρ→Prop}(d:I v)(hN:μ v<N)
  (hs:∀v,I v→Ok (fun o=>match o with|.nx c=>I c∧μ c<μ v|.ex b=>A b|.rt y=>R y) (B v)):Ok (Sum.elim A R) (Ak B N v):=
 Zo0 (fun k v=>I v∧μ v≤k) (Sum.elim A R) (fun k v h=>by
  obtain⟨o,e,a⟩:=hs v h.1
  refine⟨o,e,?_⟩
  cases o with
  |nx c=>exact⟨μ c,by have:=a.2;have:=h.2;omega,a.1,Yf _⟩
  |ex b=>exact a
  |rt y=>exact a) N (μ v) v hN ⟨d,Yf _⟩
theorem BR{m:Option (ξ ⊕ ρ)}{A:ξ→Prop}{R:ρ→Prop}{f:ξ→Option β}{g:ρ→Option β}(h:Ok (Sum.elim A R) m)(hx:∀b,A b→Ok Q (f b))(a:∀r,R r→Ok Q (g r)):Ok Q (m.bind (Sum.elim f g)):=by
 obtain⟨y,rfl,h⟩:=h
 cases y with
 |inl b=>exact hx b h
 |inr r=>exact a r h
theorem Ok.mono{a:β→Prop}{o:Option β}(h:Ok Q o)(k:∀y,Q y→a y):Ok a o:=by
 obtain⟨y,b,c⟩:=h
 exact⟨y,b,k y c⟩
theorem Ok.some{o:Option β}(h:Ok Q o):o.isSome=true:=by
 obtain⟨y,a,b⟩:=h
 rw[a]
 rfl
end
abbrev Tr{α:Type}:α→Prop:=fun _=>True
abbrev No{α:Type}:α→Prop:=fun _=>False
abbrev Ts{α β:Type}:α ⊕ β→Prop:=Sum.elim Tr Tr
theorem sz0:(⟨#[]⟩:ByteArray).size=0:=rfl
theorem A3{p:Prop}(h:p:=by first|trivial|assumption|contradiction|omega|grind|(simp only[Bd.c,Bd.vl,ByteArray.size_append,ByteArray.size_extract,sz0]at*;grind)):p:=h
theorem Cg{p:Prop}(h:p:=by first|trivial|assumption|contradiction|omega|solve_by_elim|(simp only[Yb,YH,YJ,Kk,Kl,YE,YQ]at*;omega)|grind):p:=h
end Go.Proofs.YtjbijbkdiijhaaaGreat
namespace Go.Proofs.YtjbijbkdiijhaaaGreat
set_option linter.all false
open Go Go.Eng
theorem Us(x:Int):Ok Tr (zh x):=⟨_,rfl,trivial⟩
theorem UL(x:Int):Ok Tr (za x):=⟨_,rfl,trivial⟩
theorem xV(x:Val):Ok Tr (Pv x):=⟨_,rfl,trivial⟩
theorem y4(x:Int):Ok Tr (MJ x):=⟨_,rfl,trivial⟩
theorem yZ(x:Int):Ok Tr (Pt x):=by
 dsimp only[Pt,Wv,br,lr,br,rem]
 (repeat' (first|with_reducible (first|refine AR (fun _=>?_) fun _=>?_|refine AL ?_|refine AX ?_ ?_)))<;>exact Cg
theorem iy(x:ByteArray):Ok Tr (jI x):=by
 dsimp only[jI,nv,VM,PQ,PE,br,lr,br]
 (repeat' (first|with_reducible (first|refine AR (fun _=>?_) fun _=>?_|refine AL ?_|refine AX ?_ ?_)))<;>exact Cg
theorem ZUX(x:ByteArray)(n:Int):Ok Tr (jG x n):=by
 dsimp only[jG,pF,kX,VO,Vt,PF,PG,Vq,br,lr,br]
 (repeat' (first|with_reducible (first|refine AR (fun _=>?_) fun _=>?_|refine AL ?_|refine AX ?_ ?_)))<;>exact Cg
theorem gY(x:ByteArray):Ok Tr (jQ x):=by
 dsimp only[jQ,nE,br,lr,br]
 (repeat' (first|with_reducible (first|refine AR (fun _=>?_) fun _=>?_|refine AL ?_|refine AX ?_ ?_)))<;>exact Cg
def LX(x:Fld):Prop:=(x.card≠5→1≤x.card∧x.card≤4∧x.key=0)∧(x.card=5→x.key=1∨x.key=2∨x.key=3∨x.key=4∨x.key=5∨x.key=7)
theorem o91(x:Fld):Ok (fun b=>b=true→LX x) (jK x):=by
 unfold LX
 dsimp only[jK,aN,br,wg,lr,br]
 (repeat' (first|with_reducible (first|refine AR (fun _=>?_) fun _=>?_|refine AL ?_|refine AX ?_ ?_)))<;>(intro h;first|(cases h;done)|(simp only[Yb,YJ,ao,YE,YQ]at*;omega))
theorem ia(x:ByteArray)(i a b:Int)(h:0≤i):Ok Tr (MH x i a b):=by
 dsimp only[MH,Ww,vz,lr,Bz,Gc]
 (repeat' (first|with_reducible (first|refine AR (fun _=>?_) fun _=>?_|refine AL ?_|refine AX ?_ ?_)))<;>exact Cg
theorem yL(x:ByteArray)(i n:Int)(h:0≤i)(a:i≤2097152)(b:n≤9):Ok Tr (K1 x i n):=by
 have q:Ok Ts (Ak (Lt x i n) Am 0):=by
  refine BD (fun _:Nat=>True) (fun v:Nat=>(n-v).toNat) trivial ?_ fun v _=>?_
  ·unfold Am
   omega
  dsimp only[Lt,QY,br,vs,AA,ln,Ah,cl,wa,wi,br]
  (repeat' (first|with_reducible (first|refine AR (fun _=>?_) fun _=>?_|refine AL ?_)|(with_reducible apply AN;(exact ia _ _ _ _ (by omega));intro _ _)|with_reducible refine AX ?_ ?_))<;>exact Cg
 dsimp only[K1,WP,WQ,Xa,lr,lc]
 (repeat' (first|with_reducible (first|refine AR (fun _=>?_) fun _=>?_|refine AL ?_)|(with_reducible apply BR;(exact q);all_goals(intro _ _;try dsimp only))|with_reducible refine AX ?_ ?_))<;>exact Cg
set_option maxRecDepth 20000 in
theorem ZVA(x:ByteArray)(i:Int)(h:0≤i)(h1:i<x.size)(h2:x.size≤1048576):Ok (fun y=>0≤y∧y≤4) (Pw x i):=by
 dsimp only[Pw,W8,br,vg,lr,AO,wi,br,Sc]
 (repeat' (first|with_reducible (first|refine AR (fun _=>?_) fun _=>?_|refine AL ?_|refine BY ?_ fun _ _ _=>?_)|(with_reducible apply AN;(exact ia _ _ _ _ (by omega));intro _ _)|(with_reducible apply AN;(exact yL _ _ _ (by omega) (by omega) (by omega));intro _ _)|(with_reducible apply BB;(exact fun _=>ia _ _ _ _ (by omega));intro _)|(with_reducible apply BB;(exact fun _=>yL _ _ _ (by omega) (by omega) (by omega));intro _)|with_reducible refine AX ?_ ?_))<;>exact Cg
theorem Gu:∀a b:List (List D),AS (a++b)=AS a+AS b
 |[],b=>by rw[Gi,AS,YN]
 |x::a,b=>by rw[HG,AS,AS,Gu a b];omega
theorem VI{α:Type}(e:α→List D){l:List α}{i:Nat}{x:α}(h:l[i]?=some x):AS ((l.take (i+1)).map e)=AS ((l.take i).map e)+At (e x)+1:=by
 obtain⟨a,rfl⟩:=Yd.1 h
 rw[Y5 a,DJ,Gu]
 simp only[YV,D1,AS]
 omega
theorem MZ{α:Type}(e:α→List D)(l:List α)(i:Nat):AS ((l.take i).map e)≤AS (l.map e):=by
 conv=>rhs;rw[←HJ i l,DJ,Gu]
 omega
structure SzV (v:Val):Prop where
 t:v.text.size≤1048576
 l:v.list.length≤1048576
 p:v.pairs.length≤1048576
 s:v.slots.length≤1048576
 r:v.raws.length≤1048576
structure SzN (x:Nt):Prop where
 n:x.name.size≤1048576
 v:SzV x.val
abbrev HR(l:List Nt):Prop:=l.length≤1048576∧∀x∈l,SzN x
structure SzF (x:Fld):Prop where
 n:x.name.size≤1048576
 t:x.type.name.size≤1048576
 u:x.union.size≤1048576
 d:SzV x.dflt
 o:HR x.notes
structure SzM (x:Msg):Prop where
 n:x.name.size≤1048576
 fl:x.fields.length≤1048576
 f:∀y∈x.fields,SzF y
 r:x.reserved.length≤1048576
 gl:x.gone.length≤1048576
 g:∀y∈x.gone,y.size≤1048576
 o:HR x.notes
structure SzI (x:Itm):Prop where
 n:x.name.size≤1048576
 o:HR x.notes
structure SzE (x:Enm):Prop where
 n:x.name.size≤1048576
 il:x.items.length≤1048576
 i:∀y∈x.items,SzI y
 r:x.reserved.length≤1048576
 o:HR x.notes
structure SzT (x:Mth):Prop where
 n:x.name.size≤1048576
 o:HR x.notes
structure SzW (x:Svc):Prop where
 n:x.name.size≤1048576
 ml:x.methods.length≤1048576
 m:∀y∈x.methods,SzT y
 o:HR x.notes
structure SzS (x:Scm):Prop where
 ml:x.messages.length≤1048576
 m:∀y∈x.messages,SzM y
 el:x.enums.length≤1048576
 e:∀y∈x.enums,SzE y
 wl:x.services.length≤1048576
 w:∀y∈x.services,SzW y
theorem CP{v:Val}(h:At (Ag v)≤1048576):SzV v:=by
 have a:=Cz (e:=A7) v.list
 have b:=Cz (e:=Ao) v.pairs
 have c:=Cz (e:=Aq) v.slots
 have d:=Cz (e:=Av) v.raws
 simp only[Ag,At,bk]at h
 constructor<;>omega
theorem wP{v:Val}(h:At (Ag v)≤1048576):0≤v.bits∧v.bits≤18446744073709551615:=by
 simp only[Ag,At,bk]at h
 have:=wA (k:=.u64) (n:=v.bits) (by omega)
 exact this
theorem szN{x:Nt}(h:At (Cb x)≤1048576):SzN x:=by
 have e:At (Cb x)=x.name.size+At (Ag x.val):=by simp only[Cb,Ag,At,bk]
 exact⟨by omega,CP (by omega)⟩
theorem MC{l:List Nt}(h:AS (l.map Cb)≤1048576):HR l:=⟨by have:=Cz (e:=Cb) l;omega,fun x hx=>szN (by have:=C1 (e:=Cb) hx;omega)⟩
theorem szF{x:Fld}(h:At (Ay x)≤1048576):SzF x:=by
 have e:x.name.size+x.type.name.size+x.union.size+At (Ag x.dflt)+AS (x.notes.map Cb)≤At (Ay x):=by
  simp only[Ay,Ag,At,bk]
  omega
 exact⟨by omega,by omega,by omega,CP (by omega),MC (by omega)⟩
theorem szM{x:Msg}(h:At (AU x)≤1048576):SzM x:=by
 simp only[AU,At,bk]at h
 have a:=Cz (e:=Ay) x.fields
 have b:=Cz (e:=CB) x.reserved
 have c:=Cz (e:=Bx) x.gone
 exact⟨by omega,by omega,fun y hy=>szF (by have:=C1 (e:=Ay) hy;omega),by omega,by omega,fun y hy=>by have:=C1 (e:=Bx) hy;simp only[Bx,At,bk]at this;omega,MC (by omega)⟩
theorem szI{x:Itm}(h:At (FX x)≤1048576):SzI x:=by
 simp only[FX,At,bk]at h
 exact⟨by omega,MC (by omega)⟩
theorem szE{x:Enm}(h:At (Cv x)≤1048576):SzE x:=by
 simp only[Cv,At,bk]at h
 have a:=Cz (e:=FX) x.items
 have b:=Cz (e:=CB) x.reserved
 exact⟨by omega,by omega,fun y hy=>szI (by have:=C1 (e:=FX) hy;omega),by omega,MC (by omega)⟩
theorem szT{x:Mth}(h:At (Hq x)≤1048576):SzT x:=by
 simp only[Hq,At,bk]at h
 exact⟨by omega,MC (by omega)⟩
theorem szW{x:Svc}(h:At (Di x)≤1048576):SzW x:=by
 simp only[Di,At,bk]at h
 have a:=Cz (e:=Hq) x.methods
 exact⟨by omega,by omega,fun y hy=>szT (by have:=C1 (e:=Hq) hy;omega),MC (by omega)⟩
theorem Fr{x:Scm}(h:At (Ar x)≤1048576):SzS x:=by
 simp only[Ar,At,bk]at h
 have a:=Cz (e:=AU) x.messages
 have b:=Cz (e:=Cv) x.enums
 have c:=Cz (e:=Di) x.services
 exact⟨by omega,fun y hy=>szM (by have:=C1 (e:=AU) hy;omega),by omega,fun y hy=>szE (by have:=C1 (e:=Cv) hy;omega),by omega,fun y hy=>szW (by have:=C1 (e:=Di) hy;omega)⟩
theorem mc(x:ByteArray):x.data.toList.length=x.size:=by rw[HE];rfl
theorem B0{n:Nat}(h:n≤2097152):n<Am:=by unfold Am;omega
theorem ZVd(x:ByteArray)(h:x.size≤1048576):Ok Tr (U8 x):=by
 have q:Ok Ts (Ak (Nc x) Am 0):=by
  refine BD (fun v:Int=>0≤v∧v≤x.size+4) (fun v:Int=>(x.size+4-v).toNat) ⟨by omega,by omega⟩ (B0 (by omega)) fun v a=>?_
  dsimp only[Nc,WG,br,vz,vs,AA,ln,Ah,cl,wi,Bz,br]
  (repeat' (first|with_reducible (first|refine AR (fun _=>?_) fun _=>?_|refine AL ?_)|(with_reducible apply AN;(exact ZVA _ _ a.1 Cg h);intro _ _)|with_reducible refine AX ?_ ?_))<;>exact A3
 dsimp only[U8,Xk,WW,Xb,lr,lc]
 (repeat' (first|with_reducible (first|refine AR (fun _=>?_) fun _=>?_|refine AL ?_)|(with_reducible apply BR;(exact q);all_goals(intro _ _;try dsimp only))|with_reducible refine AX ?_ ?_))<;>exact Cg
theorem qv(x:ByteArray)(h:x.size≤1048576):Ok Tr (MG x):=by
 dsimp only[MG,TE,lr,cl]
 (repeat' (first|with_reducible (first|refine AR (fun _=>?_) fun _=>?_|refine AL ?_)|(with_reducible apply AN;(exact ZVd _ h);intro _ _)|with_reducible refine AX ?_ ?_))<;>exact Cg
theorem Ul(x:ByteArray)(h:x.size≤1048576):Ok Tr (jS x):=by
 have hl:=mc x
 have q:Ok Ts (Ak (WR x) Am 1):=by
  refine BD (fun v:Nat=>v≤1048577) (fun v:Nat=>1048577-v) (by omega) (B0 (by omega)) fun v a=>?_
  dsimp only[WR,nF,br,vz,vs,AA,ln,Ah,cl,AO,wa,Bz,br,ib,Gc]
  (repeat' (first|with_reducible (first|refine AR (fun _=>?_) fun _=>?_|refine AL ?_|refine BY ?_ fun _ _ _=>?_)|(with_reducible apply AN;(exact Us _);intro _ _)|(with_reducible apply AN;(exact UL _);intro _ _)|(with_reducible apply BB;(exact fun _=>Us _);intro _)|(with_reducible apply BB;(exact fun _=>UL _);intro _)|with_reducible refine AX ?_ ?_))<;>exact A3
 dsimp only[jS,n5,oF,nQ,br,vz,vy,lr,lc,AO,Bz,br,Gc]
 (repeat' (first|with_reducible (first|refine AR (fun _=>?_) fun _=>?_|refine AL ?_)|(with_reducible apply BR;(exact q);all_goals(intro _ _;try dsimp only))|(with_reducible apply AN;(exact Us _);intro _ _)|(with_reducible apply AN;(exact UL _);intro _ _)|(with_reducible apply BB;(exact fun _=>Us _);intro _)|(with_reducible apply BB;(exact fun _=>UL _);intro _)|with_reducible refine AX ?_ ?_))<;>exact Cg
theorem ZVn(x:ByteArray)(h:x.size≤1048576):Ok Tr (jl x):=by
 have hl:=mc x
 have q:Ok (Sum.elim (fun b:ByteArray=>b.size≤1048576) Tr) (Ak (TD x) Am (⟨#[]⟩,0)):=by
  refine BD (fun v:ByteArray×Nat=>v.1.size≤v.2∧v.2≤x.size) (fun v:ByteArray×Nat=>x.size-v.2) ⟨by rw[sz0];omega,by omega⟩ (B0 (by omega)) fun v a=>?_
  obtain⟨v,i⟩:=v
  obtain⟨a,hi⟩:=a
  dsimp only at a hi
  dsimp only[TD,fZ,br,vz,vs,v2,AA,ln,Ah,ad,cl,wa,ss,Bz,br,ib]
  (repeat' (first|with_reducible (first|refine AR (fun _=>?_) fun _=>?_|refine AL ?_|refine BY ?_ fun _ _ _=>?_)|(with_reducible apply AN;(exact Ul _ (by omega));intro _ _)|with_reducible (first|refine xG ?_ ?_|refine AX ?_ ?_)))<;>exact A3
 dsimp only[jl,fR,dC,fq,br,vz,lr,lc,cl,Bz,br]
 (repeat' (first|with_reducible (first|refine AR (fun _=>?_) fun _=>?_|refine AL ?_)|(with_reducible apply BR;(exact q);all_goals(intro _ _;try dsimp only))|(with_reducible apply AN;(exact Ul _ (by assumption));intro _ _)|with_reducible refine AX ?_ ?_))<;>exact Cg
set_option maxRecDepth 20000 in
theorem ZVU(x:ByteArray)(h:x.size≤1048576):Ok (fun y=>y.1.size≤1048576∧y.2.size≤1048576) (jV x):=by
 have hl:=mc x
 have q:Ok (Sum.elim Tr (fun y:ByteArray×ByteArray=>y.1.size≤1048576∧y.2.size≤1048576)) (Ak (Xu x) Am ((x.size:Int)-1)):=by
  refine BD (fun v:Int=>-1≤v∧v<x.size) (fun v:Int=>(v+1).toNat) ⟨by omega,by omega⟩ (B0 (by omega)) fun v hv=>?_
  dsimp only[Xu,bo,br,vs,AA,ln,Ah,wi,ss,br,Sc]
  (repeat' (first|with_reducible (first|refine AR (fun _=>?_) fun _=>?_|refine AL ?_|refine BY ?_ fun _ _ _=>?_|refine xG ?_ ?_|refine AX ?_ ?_)))<;>exact A3
 dsimp only[jV,bf,dM,fM,vz,vs,lr,lc,wi,Bz]
 (repeat' (first|with_reducible (first|refine AR (fun _=>?_) fun _=>?_|refine AL ?_)|(with_reducible apply BR;(exact q);all_goals(intro _ _;try dsimp only))|with_reducible refine AX ?_ ?_))<;>exact A3
set_option maxRecDepth 20000 in
theorem qt(x:ByteArray)(h:x.size≤1048576):Ok Tr (jP x):=by
 have q:Ok Ts (Ak XR Am (x,0)):=by
  refine BD (fun v:ByteArray×Nat=>v.1.size≤1048576∧v.2≤120) (fun v:ByteArray×Nat=>120-v.2) ⟨h,by omega⟩ (B0 (by omega)) fun v hv=>?_
  obtain⟨v,i⟩:=v
  obtain⟨hv,hi⟩:=hv
  dsimp only at hv hi
  dsimp only[XR,dl,br,vs,v2,AA,ln,Ah,cl,wa,br]
  (repeat' (first|with_reducible (first|refine AR (fun _=>?_) fun _=>?_|refine AL ?_)|(with_reducible apply AN;(exact ZVU _ hv);intro _ _)|(with_reducible apply AN;(exact gY _);intro _ _)|with_reducible refine AX ?_ ?_))<;>exact A3
 dsimp only[jP,cB,dA,fp,br,lr,lc,cl,br]
 (repeat' (first|with_reducible (first|refine AR (fun _=>?_) fun _=>?_|refine AL ?_)|(with_reducible apply BR;(exact q);all_goals(intro _ _;try dsimp only))|(with_reducible apply AN;(exact ZVn _ h);intro _ _)|with_reducible refine AX ?_ ?_))<;>exact A3
set_option maxRecDepth 20000 in
theorem LU(x:ByteArray)(h:x.size≤1048576):Ok Tr (jn x):=by
 dsimp only[jn,bq,lr,cl,AO]
 (repeat' (first|with_reducible (first|refine AR (fun _=>?_) fun _=>?_|refine AL ?_)|(with_reducible apply AN;(exact Ul _ h);intro _ _)|(with_reducible apply AN;(exact gY _);intro _ _)|(with_reducible apply BB;(exact fun _=>Ul _ h);intro _)|(with_reducible apply BB;(exact fun _=>gY _);intro _)|with_reducible refine AX ?_ ?_))<;>exact A3
theorem o86(l:List ByteArray)(x:ByteArray)(h:l.length≤1048576):Ok Tr (Pz l x):=by
 have q:Ok Ts (Ak (Nm l x) Am 0):=by
  refine BD (fun v:Nat=>v≤l.length) (fun v:Nat=>l.length-v) (by omega) (B0 (by omega)) fun v a=>?_
  dsimp only[Nm,Tx,br,ix,vz,vs,AA,ln,Ah,wa,An,br]
  (repeat' (first|with_reducible (first|refine AR (fun _=>?_) fun _=>?_|refine AL ?_|refine BY ?_ fun _ _ _=>?_|refine AX ?_ ?_)))<;>exact A3
 dsimp only[Pz,Za,Tc,TU,lr,lc]
 (repeat' (first|with_reducible (first|refine AR (fun _=>?_) fun _=>?_|refine AL ?_)|(with_reducible apply BR;(exact q);all_goals(intro _ _;try dsimp only))|with_reducible refine AX ?_ ?_))<;>exact A3
theorem qu(l:List Spn)(x:Int)(h:l.length≤1048576):Ok Tr (jt l x):=by
 have q:Ok Ts (Ak (TH l x) Am 0):=by
  refine BD (fun v:Nat=>v≤l.length) (fun v:Nat=>l.length-v) (by omega) (B0 (by omega)) fun v a=>?_
  dsimp only[TH,ce,br,ix,AZ,vz,vs,AA,ln,Ah,wa,An,br]
  (repeat' (first|with_reducible (first|refine AR (fun _=>?_) fun _=>?_|refine AL ?_|refine BY ?_ fun _ _ _=>?_|refine Gs ?_ fun _=>?_|refine AX ?_ ?_)))<;>exact A3
 dsimp only[jt,eq,eM,dQ,lr,lc]
 (repeat' (first|with_reducible (first|refine AR (fun _=>?_) fun _=>?_|refine AL ?_)|(with_reducible apply BR;(exact q);all_goals(intro _ _;try dsimp only))|with_reducible refine AX ?_ ?_))<;>exact A3
theorem Sd(s:Scm)(x:ByteArray)(h:SzS s):Ok (fun y:Int=>y<s.messages.length∧(0≤y→∃m∈s.messages,m.name=x)) (jy s x):=by
 have hm:=h.ml
 have q:Ok (Sum.elim Tr fun y:Int=>y<s.messages.length∧(0≤y→∃m∈s.messages,m.name=x)) (Ak (Xx s x) Am 0):=by
  refine BD (fun v:Nat=>v≤s.messages.length) (fun v:Nat=>s.messages.length-v) (by omega) (B0 (by omega)) fun v a=>?_
  dsimp only[Xx,a2,br,ix,vz,wg,vs,AA,ln,Ah,wa,An,br]
  (repeat' (first|with_reducible (first|refine AR (fun _=>?_) fun _=>?_|refine AL ?_|refine BY ?_ fun _ _ _=>?_|refine AX ?_ ?_)))<;>first|exact⟨by omega,fun _=>⟨_,by assumption,Y0 (by assumption)⟩⟩|exact A3
 dsimp only[jy,gJ,gU,cA,lr,lc]
 (repeat' (first|with_reducible (first|refine AR (fun _=>?_) fun _=>?_|refine AL ?_)|(with_reducible apply BR;(exact q);all_goals(intro _ _;try dsimp only))|with_reducible refine AX ?_ ?_))<;>first|exact⟨by omega,fun h=>absurd h (by decide)⟩|exact A3
theorem ip(s:Scm)(x:ByteArray)(h:SzS s):Ok (fun y:Int=>y<s.enums.length∧(0≤y→∃m∈s.enums,m.name=x)) (ju s x):=by
 have hm:=h.el
 have q:Ok (Sum.elim Tr fun y:Int=>y<s.enums.length∧(0≤y→∃m∈s.enums,m.name=x)) (Ak (Xj s x) Am 0):=by
  refine BD (fun v:Nat=>v≤s.enums.length) (fun v:Nat=>s.enums.length-v) (by omega) (B0 (by omega)) fun v a=>?_
  dsimp only[Xj,mA,br,ix,vz,wg,vs,AA,ln,Ah,wa,An,br]
  (repeat' (first|with_reducible (first|refine AR (fun _=>?_) fun _=>?_|refine AL ?_|refine BY ?_ fun _ _ _=>?_|refine AX ?_ ?_)))<;>first|exact⟨by omega,fun _=>⟨_,by assumption,Y0 (by assumption)⟩⟩|exact A3
 dsimp only[ju,nz,m6,pU,lr,lc]
 (repeat' (first|with_reducible (first|refine AR (fun _=>?_) fun _=>?_|refine AL ?_)|(with_reducible apply BR;(exact q);all_goals(intro _ _;try dsimp only))|with_reducible refine AX ?_ ?_))<;>first|exact⟨by omega,fun h=>absurd h (by decide)⟩|exact A3
theorem UG(v w:Val)(h:SzV v)(k:SzV w):Ok Tr (jo v w):=by
 obtain⟨_,_,_,_,_⟩:=h
 obtain⟨_,_,_,_,_⟩:=k
 dsimp only[jo,oL,vy,wg,vg,lr,wa,An]
 (repeat' (first|with_reducible (first|refine AR (fun _=>?_) fun _=>?_|refine AL ?_|refine AX ?_ ?_)))<;>exact A3
def ro(v:Val):Prop:=v.list=[]∧v.pairs=[]∧v.slots=[]∧v.raws=[]∧(v.kind=7∨v.kind=8→v.bits=0)∧(¬(v.kind=7∨v.kind=8)→v.text=⟨#[]⟩)
def Ot(n:Int)(v:Val):Prop:=1≤n∧n≤9∧v.kind=n∧ro v
theorem ZSz{n:Int}{v:Val}(h:SzV v)(e:Ju n v=some true):Ot n v:=by
 obtain⟨p,q,r,s,t⟩:=h
 have k:v.list.length<4611686018427387904:=by omega
 have l:v.pairs.length<4611686018427387904:=by omega
 have m:v.slots.length<4611686018427387904:=by omega
 have o:v.raws.length<4611686018427387904:=by omega
 have hi:MN n=some (decide (1≤n)&&decide (n≤9)):=rfl
 dsimp only[Ju,Q1,br,vz,vy,wg,lr,cl,AO,Bz,br,Pv,W5,vz,vy,wg,lr,An,MJ,Rb,lr]at e
 rw[hi]at e
 unfold Ot ro
 simp only[Ya]at e
 generalize MG v.text=w at e
 simp[k,l,m,o]at e
 split at e
 ·cases e
 ·rename_i c
  simp only[not_or,Decidable.not_not,Classical.not_imp,Int.not_lt]at c
  obtain⟨⟨⟨d,f⟩,b⟩,⟨⟨g,i⟩,j⟩,c6⟩:=c
  refine⟨d,f,b,g,i,j,c6,fun a=>?_,fun a=>?_⟩
  ·rw[b]at a
   simp only[a,Yt]at e
   split at e<;>simp_all
  ·rw[b]at a
   simp only[a,YP]at e
   split at e<;>simp_all
theorem UF(n:Int)(v:Val)(h:SzV v):Ok (fun b=>b=true→Ot n v) (Ju n v):=by
 have a:=h.t
 have q:Ok Tr (Ju n v):=by
  have c:Ok Tr (MN n):=⟨_,rfl,trivial⟩
  dsimp only[Ju,Q1,br,vz,vy,wg,lr,cl,AO,Bz,br]
  (repeat' (first|with_reducible (first|refine AR (fun _=>?_) fun _=>?_|refine AL ?_)|(with_reducible apply AN;(exact c);intro _ _)|(with_reducible apply AN;(exact xV _);intro _ _)|(with_reducible apply AN;(exact y4 _);intro _ _)|(with_reducible apply AN;(exact qv _ a);intro _ _)|(with_reducible apply BB;(exact fun _=>c);intro _)|(with_reducible apply BB;(exact fun _=>xV _);intro _)|(with_reducible apply BB;(exact fun _=>y4 _);intro _)|(with_reducible apply BB;(exact fun _=>qv _ a);intro _)|with_reducible refine AX ?_ ?_))<;>exact A3
 obtain⟨b,e,_⟩:=q
 exact⟨b,e,fun d=>ZSz h (d▸e)⟩
theorem y9(v:Val)(h:SzV v):Ok SzV (Pu v):=by
 dsimp only[Pu,XQ,br,wg,lr,AO,br]
 (repeat' (first|with_reducible (first|refine AR (fun _=>?_) fun _=>?_|refine AL ?_)|(with_reducible apply AN;(exact yZ _);intro _ _)|(with_reducible apply BB;(exact fun _=>yZ _);intro _)|with_reducible refine AX ?_ ?_))<;>first|exact h|exact⟨h.t,h.l,h.p,h.s,h.r⟩
theorem ZVr(x:Nt)(h:SzN x):Ok Tr (jZ x):=by
 dsimp only[jZ,oY,wg,lr,cl,AO]
 (repeat' (first|with_reducible (first|refine AR (fun _=>?_) fun _=>?_|refine AL ?_)|(with_reducible apply AN;(exact iy _);intro _ _)|(with_reducible apply AN;(exact UF _ _ h.v);intro _ _)|(with_reducible apply BB;(exact fun _=>iy _);intro _)|(with_reducible apply BB;(exact fun _=>UF _ _ h.v);intro _)|with_reducible refine AX ?_ ?_))<;>exact A3
theorem ZVb(l:List Nt)(n:Int)(h:HR l):Ok Tr (jY l n):=by
 obtain⟨b,a⟩:=h
 have q:Ok Ts (Ak (WZ l n) Am 0):=by
  refine BD (fun v:Nat=>v≤l.length) (fun v:Nat=>l.length-v) (by omega) (B0 (by omega)) fun v c=>?_
  dsimp only[WZ,pn,br,ix,AZ,vz,vs,vg,AA,ln,Ah,cl,wa,wi,An,br]
  (repeat' (first|with_reducible (first|refine AR (fun _=>?_) fun _=>?_|refine AL ?_|refine BY ?_ fun _ _ _=>?_)|(with_reducible apply AN;(exact iy _);intro _ _)|(with_reducible apply AN;(exact ZUX _ _);intro _ _)|(with_reducible apply AN;(exact ZVr _ (a _ (by assumption)));intro _ _)|with_reducible (first|refine Gs ?_ fun _=>?_|refine AX ?_ ?_)))<;>exact A3
 dsimp only[jY,n7,mR,py,br,vz,lr,lc,An,br]
 (repeat' (first|with_reducible (first|refine AR (fun _=>?_) fun _=>?_|refine AL ?_)|(with_reducible apply BR;(exact q);all_goals(intro _ _;try dsimp only))|with_reducible refine AX ?_ ?_))<;>exact A3
theorem Em(d:ByteArray)(l:List Prb)(b:Bool)(n e:Int)(h:l.length<549755813887):Ok (fun y=>l.length≤y.length∧y.length≤l.length+1∧(b=true→l.length+1≤y.length)) (BF d l b n e):=by
 dsimp only[BF,gj,cO,dh,eL,vz,vw,wg,lr,lc,ap,BW,fl]
 (repeat' (first|with_reducible (first|refine AR (fun _=>?_) fun _=>?_|refine AL ?_|refine AX ?_ ?_)))<;>first|exact A3|simp_all
theorem J7(d:ByteArray)(l:List Prb)(x:List Nt)(t n:Int)(h:l.length<549755813887)(hx:HR x):Ok (fun y=>l.length≤y.length∧y.length≤l.length+1) (HU d l x t n):=by
 dsimp only[HU,fK,ed,bU,gQ,vz,lr,lc,cl,fl]
 (repeat' (first|with_reducible (first|refine AR (fun _=>?_) fun _=>?_|refine AL ?_)|(with_reducible apply AN;(exact ZVb _ _ hx);intro _ _)|(with_reducible apply AN;(exact Em _ _ _ _ _ h);intro _ _)|with_reducible refine AX ?_ ?_))<;>exact A3
theorem o96(d:ByteArray)(l:List Prb)(x:List Spn)(t n:Int)(h:l.length<500000000000)(hx:x.length≤1048576):Ok (fun y=>l.length≤y.length∧y.length≤l.length+2*x.length) (Pp d l x t n):=by
 have q:Ok (Sum.elim (fun y:List Prb=>l.length≤y.length∧y.length≤l.length+2*x.length) No) (Ak (TZ d x t n) Am (0,l)):=by
  refine BD (fun v:Nat×List Prb=>v.1≤x.length∧l.length≤v.2.length∧v.2.length≤l.length+2*v.1) (fun v:Nat×List Prb=>x.length-v.1) ⟨by omega,by simp,by simp⟩ (B0 (by omega)) fun v e=>?_
  obtain⟨i,r⟩:=v
  obtain⟨a,b,c⟩:=e
  dsimp only at a b c
  dsimp only[TZ,gN,cL,bO,dL,dG,gb,br,ix,AZ,vz,vs,vg,ln,Ah,lc,wa,wi,fl,An,br]
  (repeat' (first|with_reducible (first|refine AR (fun _=>?_) fun _=>?_|refine AL ?_|refine BY ?_ fun _ _ _=>?_)|(with_reducible apply AN;(exact Em _ _ _ _ _ (by omega));intro _ _)|with_reducible (first|refine Gs ?_ fun _=>?_|refine AX ?_ ?_)))<;>exact A3
 dsimp only[Pp,bX,ct,vz,lr,lc,fl]
 (repeat' (first|with_reducible (first|refine AR (fun _=>?_) fun _=>?_|refine AL ?_)|(with_reducible apply BR;(exact q);all_goals(intro _ _;try dsimp only))|with_reducible refine AX ?_ ?_))<;>exact A3
theorem qs(s:Scm)(w:Int)(h:SzS s):Ok (fun y=>y.length≤3145728) (jX s w):=by
 have a:=h.ml
 have b:=h.el
 have j:=h.wl
 have e:Ok (Sum.elim (fun y:List ByteArray=>y.length≤1048576) No) (Ak (XP s w) Am ([],0)):=by
  refine BD (fun v:List ByteArray×Nat=>v.2≤s.messages.length∧v.1.length≤v.2) (fun v:List ByteArray×Nat=>s.messages.length-v.2) ⟨by omega,by simp⟩ (B0 (by omega)) fun v c=>?_
  obtain⟨r,i⟩:=v
  obtain⟨a,b⟩:=c
  dsimp only at a b
  dsimp only[XP,eg,br,ix,vz,vy,vw,wg,vs,v2,ln,Ah,ap,wa,fl,An,br]
  (repeat' (first|with_reducible (first|refine AR (fun _=>?_) fun _=>?_|refine AL ?_|refine BY ?_ fun _ _ _=>?_|refine AX ?_ ?_)))<;>exact A3
 have f:∀r:List ByteArray,r.length≤1048576→Ok (Sum.elim (fun y:List ByteArray=>y.length≤2097152) No) (Ak (TM s w) Am (r,0)):=by
  intro r d
  refine BD (fun v:List ByteArray×Nat=>v.2≤s.enums.length∧v.1.length≤1048576+v.2) (fun v:List ByteArray×Nat=>s.enums.length-v.2) ⟨by omega,by simpa using d⟩ (B0 (by omega)) fun v c=>?_
  obtain⟨r,i⟩:=v
  obtain⟨a,b⟩:=c
  dsimp only at a b
  dsimp only[TM,fe,br,ix,vz,vy,vw,wg,vs,ln,Ah,ap,wa,fl,An,br]
  (repeat' (first|with_reducible (first|refine AR (fun _=>?_) fun _=>?_|refine AL ?_|refine BY ?_ fun _ _ _=>?_|refine AX ?_ ?_)))<;>exact A3
 have g:∀r:List ByteArray,r.length≤2097152→Ok (Sum.elim (fun y:List ByteArray=>y.length≤3145728) No) (Ak (XH s w) Am (r,0)):=by
  intro r d
  refine BD (fun v:List ByteArray×Nat=>v.2≤s.services.length∧v.1.length≤2097152+v.2) (fun v:List ByteArray×Nat=>s.services.length-v.2) ⟨by omega,by simpa using d⟩ (B0 (by omega)) fun v c=>?_
  obtain⟨r,i⟩:=v
  obtain⟨a,b⟩:=c
  dsimp only at a b
  dsimp only[XH,fY,br,ix,vz,vy,vw,wg,vs,ln,Ah,ap,wa,fl,An,br]
  (repeat' (first|with_reducible (first|refine AR (fun _=>?_) fun _=>?_|refine AL ?_|refine BY ?_ fun _ _ _=>?_|refine AX ?_ ?_)))<;>exact A3
 dsimp only[jX,bL,gy,dp,gC,dX,fk,vz,vw,lr,lc,fl,fr]
 (repeat' (first|with_reducible (first|refine AR (fun _=>?_) fun _=>?_|refine AL ?_)|(with_reducible apply BR;(exact e);all_goals(intro _ _;try dsimp only))|(with_reducible apply BR;(exact f _ (by assumption));all_goals(intro _ _;try dsimp only))|(with_reducible apply BR;(exact g _ (by assumption));all_goals(intro _ _;try dsimp only))|with_reducible refine AX ?_ ?_))<;>exact A3
theorem o63(l:List ByteArray)(h:l.length≤3145728):Ok Tr (jq l):=by
 have q:Ok Ts (Ak (XS l) Am 1):=by
  refine BD (fun v:Nat=>1≤v∧v≤l.length+1) (fun v:Nat=>l.length+1-v) ⟨by omega,by omega⟩ (by unfold Am;omega) fun v a=>?_
  dsimp only[XS,a6,br,ix,CE,vz,vs,AA,ln,Ah,wa,wi,An,br]
  (repeat' (first|with_reducible (first|refine AR (fun _=>?_) fun _=>?_|refine AL ?_|refine BY ?_ fun _ _ _=>?_|refine AX ?_ ?_)))<;>exact A3
 dsimp only[jq,dI,cH,eB,lr,lc]
 (repeat' (first|with_reducible (first|refine AR (fun _=>?_) fun _=>?_|refine AL ?_)|(with_reducible apply BR;(exact q);all_goals(intro _ _;try dsimp only))|with_reducible refine AX ?_ ?_))<;>exact A3
theorem ZVw(l:List ByteArray)(x:ByteArray)(h:l.length≤3145728):Ok Tr (Pz l x):=by
 have q:Ok Ts (Ak (Nm l x) Am 0):=by
  refine BD (fun v:Nat=>v≤l.length) (fun v:Nat=>l.length-v) (by omega) (by unfold Am;omega) fun v a=>?_
  dsimp only[Nm,Tx,br,ix,vz,vs,AA,ln,Ah,wa,An,br]
  (repeat' (first|with_reducible (first|refine AR (fun _=>?_) fun _=>?_|refine AL ?_|refine BY ?_ fun _ _ _=>?_|refine AX ?_ ?_)))<;>exact A3
 dsimp only[Pz,Za,Tc,TU,lr,lc]
 (repeat' (first|with_reducible (first|refine AR (fun _=>?_) fun _=>?_|refine AL ?_)|(with_reducible apply BR;(exact q);all_goals(intro _ _;try dsimp only))|with_reducible refine AX ?_ ?_))<;>exact A3
theorem o64(l k:List ByteArray)(h:l.length≤3145728)(a:k.length≤3145728):Ok Tr (jJ l k):=by
 have q:Ok Ts (Ak (XE l k) Am 0):=by
  refine BD (fun v:Nat=>v≤l.length) (fun v:Nat=>l.length-v) (by omega) (by unfold Am;omega) fun v b=>?_
  dsimp only[XE,dt,br,ix,vz,vs,AA,ln,Ah,cl,wa,An,br]
  (repeat' (first|with_reducible (first|refine AR (fun _=>?_) fun _=>?_|refine AL ?_|refine BY ?_ fun _ _ _=>?_)|(with_reducible apply AN;(exact ZVw _ _ a);intro _ _)|with_reducible refine AX ?_ ?_))<;>exact A3
 dsimp only[jJ,gG,eD,gK,lr,lc]
 (repeat' (first|with_reducible (first|refine AR (fun _=>?_) fun _=>?_|refine AL ?_)|(with_reducible apply BR;(exact q);all_goals(intro _ _;try dsimp only))|with_reducible refine AX ?_ ?_))<;>exact A3
def L3(s:Scm)(f:Fld):Prop:=(f.type.kind=9→∃m∈s.enums,m.name=f.type.name)∧(f.type.kind=10→(∃m∈s.messages,m.name=f.type.name)∧f.card≠3)∧1≤f.type.kind∧f.type.kind≤10
theorem o92(s:Scm)(f:Fld)(h:SzS s):Ok (fun b=>b=true→L3 s f) (jB s f):=by
 unfold L3
 dsimp only[jB,dz,br,wg,lr,cl,br]
 (repeat' (first|with_reducible (first|refine AR (fun _=>?_) fun _=>?_|refine AL ?_)|(with_reducible apply AN;(exact ip _ _ h);intro _ _)|(with_reducible apply AN;(exact Sd _ _ h);intro _ _)|with_reducible refine AX ?_ ?_))
 ·intro a
  have d:f.type.kind=9:=Y0 (by assumption)
  have e:=(show _<_∧(_→∃m∈s.enums,m.name=f.type.name)by assumption).2 (Y0 a)
  exact⟨fun _=>e,fun k=>by omega,by omega,by omega⟩
 ·intro a
  have c:f.type.kind=10:=Y0 (by assumption)
  rw[Yb]at a
  have e:=(show _<_∧(_→∃m∈s.messages,m.name=f.type.name)by assumption).2 (Y0 a.1)
  exact⟨fun k=>by omega,fun _=>⟨e,by simpa using a.2⟩,by omega,by omega⟩
 ·intro a
  simp only[Yb,YE]at a
  exact⟨fun k=>by omega,fun k=>by omega,by omega,by omega⟩
def Ou(f:Fld):Prop:=f.union≠⟨#[]⟩→f.card=2
theorem o93(m:Msg)(i:Nat)(h:SzM m)(hi:i<m.fields.length):Ok (fun b=>b=true→∀f,m.fields[i]?=some f→Ou f) (j5 m i):=by
 have hl:=h.fl
 have q:∀e,Ok (Sum.elim (fun b:Bool=>b=true→0<i) Tr) (Ak (Zs m i e) Am (false,0)):=by
  intro e
  refine BD (fun v:Bool×Nat=>v.2≤m.fields.length∧(v.1=true→0<i)) (fun v:Bool×Nat=>m.fields.length-v.2) ⟨by omega,by simp⟩ (B0 (by omega)) fun v k=>?_
  obtain⟨b,j⟩:=v
  obtain⟨c,d⟩:=k
  dsimp only at c d
  dsimp only[Zs,ek,br,ix,AZ,vz,wg,vs,AA,ln,Ah,wa,An,br]
  (repeat' (first|with_reducible (first|refine AR (fun _=>?_) fun _=>?_|refine AL ?_|refine BY ?_ fun _ _ _=>?_|refine Gs ?_ fun _=>?_|refine AX ?_ ?_)))<;>exact A3
 dsimp only[j5,em,eG,fg,br,CE,AZ,wg,vg,lr,lc,AO,wi,br]
 (repeat' (first|with_reducible (first|refine AR (fun _=>?_) fun _=>?_|refine AL ?_|refine BY ?_ fun _ _ _=>?_)|(with_reducible apply BR;(exact q _);all_goals(intro _ _;try dsimp only))|(with_reducible apply AN;(exact LU _ ((h.f _ (by assumption)).u));intro _ _)|(with_reducible apply BB;(exact fun _=>LU _ ((h.f _ (by assumption)).u));intro _)|with_reducible (first|refine Gs ?_ fun _=>?_|refine AX ?_ ?_)))<;>first|(intro h;cases h;done)|(have he:=‹m.fields[i]?=some _›;intro _ f a;rw[he]at a;cases a;intro g;first|exact absurd (Y0 (by assumption)) g|(simp only[YH,YJ,Kl,ao,YE,YQ]at*;omega)|grind)|exact A3
def IT(f:Fld):Prop:=f.hasDefault=true→Ot f.type.kind f.dflt∧f.card=2∧f.union=⟨#[]⟩
theorem o94(s:Scm)(f:Fld)(h:SzS s)(a:SzF f):Ok (fun b=>b=true→IT f) (j6 s f):=by
 have g:SzV (.mk 0 0 ⟨#[]⟩ [] [] [] []):=by constructor<;>decide
 have he:∀y,y∈s.enums→y.items.length≤1048576:=fun y hy=>(h.e y hy).il
 have q:∀y:Int,0≤y→y<s.enums.length→Ok Ts (Ak (Zo s f y) Am 0):=by
  intro y hy k
  refine BD (fun v:Nat=>v≤1048576) (fun v:Nat=>1048576-v) (by omega) (B0 (by omega)) fun v l=>?_
  dsimp only[Zo,bS,br,ix,CE,vz,wg,vs,AA,ln,Ah,wa,An,br]
  (repeat' (first|with_reducible (first|refine AR (fun _=>?_) fun _=>?_|refine AL ?_|refine BY ?_ fun _ _ _=>?_|refine AX ?_ ?_)))<;>exact A3
 have key:∀(c d:Bool),((!((!decide (f.card=2))||(!decide (f.union=⟨#[]⟩))))=true→c=true→Ot f.type.kind f.dflt)→((((!decide (f.card=2))||(!decide (f.union=⟨#[]⟩)))||!c)||!d)=false→IT f:=fun c d i j _=>by
  cases c<;>cases d<;>simp_all
 have e:(!f.hasDefault)=true→IT f:=fun i j=>by simp_all
 dsimp only[j6,cG,ci,ee,br,wg,lr,lc,cl,AO,br]
 (repeat' (first|with_reducible (first|refine AR (fun _=>?_) fun _=>?_|refine AL ?_)|(with_reducible apply BR;(exact q _ Cg Cg);all_goals(intro _ _;try dsimp only))|(with_reducible apply AN;(exact UG _ _ a.d g);intro _ _)|(with_reducible apply AN;(exact UF _ _ a.d);intro _ _)|(with_reducible apply AN;(exact y9 _ a.d);intro _ _)|(with_reducible apply AN;(exact UG _ _ a.d (by solve_by_elim));intro _ _)|(with_reducible apply AN;(exact ip _ _ h);intro _ _)|(with_reducible apply BB;(exact fun _=>UG _ _ a.d g);intro _)|(with_reducible apply BB;(exact fun _=>UF _ _ a.d);intro _)|(with_reducible apply BB;(exact fun _=>y9 _ a.d);intro _)|(with_reducible apply BB;(exact fun _=>UG _ _ a.d (by solve_by_elim));intro _)|(with_reducible apply BB;(exact fun _=>ip _ _ h);intro _)|with_reducible refine AX ?_ ?_))<;>first|(intro _;exact key _ _ (by assumption) (by assumption))|(intro _;exact e (by assumption))|exact A3
theorem o87(s:Scm)(m:Msg)(l:List Bool)(h:SzS s)(hm:SzM m)(hl:l.length=s.messages.length):Ok Tr (j7 s m l):=by
 have a:=hm.fl
 have q:Ok Ts (Ak (To s m l) Am 0):=by
  refine BD (fun v:Nat=>v≤m.fields.length) (fun v:Nat=>m.fields.length-v) (by omega) (B0 (by omega)) fun v b=>?_
  dsimp only[To,fm,br,ix,AZ,vz,wg,vs,AA,ln,Ah,cl,wa,An,br]
  (repeat' (first|with_reducible (first|refine AR (fun _=>?_) fun _=>?_|refine AL ?_|refine BY ?_ fun _ _ _=>?_)|(with_reducible apply AN;(exact Sd _ _ h);intro _ _)|with_reducible (first|refine Gs ?_ fun _=>?_|refine AX ?_ ?_)))<;>exact A3
 dsimp only[j7,cg,gh,cZ,lr,lc]
 (repeat' (first|with_reducible (first|refine AR (fun _=>?_) fun _=>?_|refine AL ?_)|(with_reducible apply BR;(exact q);all_goals(intro _ _;try dsimp only))|with_reducible refine AX ?_ ?_))<;>exact A3
theorem xD(s:Scm)(m:Msg)(l:List Bool)(h:SzS s)(hm:SzM m)(hl:l.length=s.messages.length):Ok Tr (U9 s m l):=by
 have a:=hm.fl
 have q:Ok Ts (Ak (Wm s m l) Am 0):=by
  refine BD (fun v:Nat=>v≤m.fields.length) (fun v:Nat=>m.fields.length-v) (by omega) (B0 (by omega)) fun v b=>?_
  dsimp only[Wm,lK,br,ix,vz,wg,vs,vg,AA,ln,Ah,cl,wa,AH,Fl,fl,An,br,AH]
  (repeat' (first|with_reducible (first|refine AR (fun _=>?_) fun _=>?_|refine AL ?_|refine BY ?_ fun _ _ _=>?_)|(with_reducible apply AN;(exact Sd _ _ h);intro _ _)|with_reducible refine AX ?_ ?_))<;>exact A3
 dsimp only[U9,lI,lM,lR,vz,lr,lc,fl]
 (repeat' (first|with_reducible (first|refine AR (fun _=>?_) fun _=>?_|refine AL ?_)|(with_reducible apply BR;(exact q);all_goals(intro _ _;try dsimp only))|with_reducible refine AX ?_ ?_))<;>exact A3
theorem o65(s:Scm)(h:SzS s):Ok (fun y=>y.length=s.messages.length) (jO s):=by
 have g:=h.ml
 have q:∀(v:Nat) (r:List Bool),r.length=s.messages.length→Ok (Sum.elim (fun y:Bool×List Bool=>y.2.length=s.messages.length) No) (Ak (Xt s v) Am (false,0,r)):=by
  intro w r e
  refine BD (fun v:Bool×Nat×List Bool=>v.2.1≤s.messages.length∧v.2.2.length=s.messages.length) (fun v:Bool×Nat×List Bool=>s.messages.length-v.2.1) ⟨by simp,e⟩ (B0 (by simp;omega)) fun v d=>?_
  obtain⟨b,i,r⟩:=v
  obtain⟨c,a⟩:=d
  dsimp only at c a
  dsimp only[Xt,eY,br,AZ,vz,vw,wg,vs,v2,ln,Ah,J2,wa,ir,ca,st,rn,fl,An,br]
  (repeat' (first|with_reducible (first|refine AR (fun _=>?_) fun _=>?_|refine AL ?_|refine BY ?_ fun _ _ _=>?_)|(with_reducible apply AN;(exact xD _ _ _ h (h.m _ (by grind)) a);intro _ _)|(with_reducible apply BB;(exact fun _=>xD _ _ _ h (h.m _ (by grind)) a);intro _)|with_reducible (first|refine Gs ?_ fun _=>?_|refine AX ?_ ?_)))<;>exact A3
 have f:Ok (Sum.elim (fun y:List Bool=>y.length=s.messages.length) No) (Ak (Tm s) Am (true,0,List.replicate s.messages.length false)):=by
  refine BD (fun v:Bool×Nat×List Bool=>v.2.1≤s.messages.length∧v.2.2.length=s.messages.length) (fun v:Bool×Nat×List Bool=>s.messages.length-v.2.1) ⟨by simp,by simp⟩ (B0 (by simp;omega)) fun v d=>?_
  obtain⟨b,i,r⟩:=v
  obtain⟨c,a⟩:=d
  dsimp only at c a
  dsimp only[Tm,aO,bJ,eu,br,vz,wg,vs,v2,ln,Ah,lc,wa,fl,An,br]
  (repeat' (first|with_reducible (first|refine AR (fun _=>?_) fun _=>?_|refine AL ?_)|(with_reducible apply BR;(exact q _ _ a);all_goals(intro _ _;try dsimp only))|with_reducible refine AX ?_ ?_))<;>exact A3
 dsimp only[jO,bN,db,dP,vz,wg,lr,lc,ms,fl,fr,An]
 (repeat' (first|with_reducible (first|refine AR (fun _=>?_) fun _=>?_|refine AL ?_)|(with_reducible apply BR;(exact f);all_goals(intro _ _;try dsimp only))|with_reducible refine AX ?_ ?_))<;>exact A3
def Dv(l:List Fld)(n:Nat):Prop:=∀(i:Nat) (a b:Fld),i+1<n→l[i]?=some a→l[i+1]?=some b→a.num<b.num
theorem ZAk{l:List Fld}{v:Nat}{a b:Fld}(h:Dv l v)(g:l[v]?=some a)(j:0<v→l[v-1]?=some b∧b.num<a.num):Dv l (v+1):=by
 intro i x y hi hx hy
 by_cases e:i+1<v
 ·exact h i x y e hx hy
 ·have d:i+1=v:=by omega
  have f:v-1=i:=by omega
  rw[d]at hy
  obtain⟨c,k⟩:=j (by omega)
  rw[f]at c
  rw[g]at hy
  rw[c]at hx
  cases hx
  cases hy
  exact k
structure GdM0 (s:Scm) (m:Msg):Prop where
 asc:Dv m.fields m.fields.length
 df:∀(j:Nat) (f:Fld),m.fields[j]?=some f→IT f∧LX f∧L3 s f∧Ou f
def L1(e:Enm):Prop:=∃x,e.items[0]?=some x∧x.num=0
structure GdM (s:Scm) (m:Msg):Prop where
 asc:Dv m.fields m.fields.length
 df:∀(j:Nat) (f:Fld),m.fields[j]?=some f→IT f∧LX f∧L3 s f∧Ou f
 en:∀(j:Nat) (e:Enm),s.enums[j]?=some e→L1 e
theorem ZRA(x:Msg):x.fields.length+x.reserved.length+x.gone.length≤At (AU x):=by
 have a:=Cz (e:=Ay) x.fields
 have b:=Cz (e:=CB) x.reserved
 have c:=Cz (e:=Bx) x.gone
 simp only[AU,At,bk]
 omega
theorem ZR9(x:Enm):x.items.length+x.reserved.length≤At (Cv x):=by
 have a:=Cz (e:=FX) x.items
 have b:=Cz (e:=CB) x.reserved
 simp only[Cv,At,bk]
 omega
theorem ZR8(x:Svc):x.methods.length≤At (Di x):=by
 have a:=Cz (e:=Hq) x.methods
 simp only[Di,At,bk]
 omega
theorem y3(d:ByteArray)(b:Bool)(n e:Int):Ok (fun y=>y.length≤1) (BF d [] b n e):=(Em d [] b n e (by simp)).mono fun y h=>by simpa using h.2.1
theorem o66(s:Scm)(m:Msg)(l:List Bool)(h:SzS s)(hm:SzM m)(hl:l.length=s.messages.length):Ok (fun y=>y.length≤20*(At (AU m)+1)∧(y.length=0→GdM0 s m)) (jv s m l):=by
 have g:=ZRA m
 have G:=hm.fl
 have q:=hm.r
 have B:=hm.gl
 have E:∀(v:Nat) (r:List Prb) (e:Fld),v≤m.fields.length→Ok (Sum.elim Tr No) (Ak (TB s m l v r e) Am (false,0)):=by
  intro w r e I
  refine BD (fun v:Bool×Nat=>v.2≤w) (fun v:Bool×Nat=>w-v.2) (by simp) (B0 (by omega)) fun v k=>?_
  obtain⟨b,i⟩:=v
  dsimp only at k
  dsimp only[TB,bA,br,ix,vz,wg,vs,ln,Ah,wa,fl,br]
  (repeat' (first|with_reducible (first|refine AR (fun _=>?_) fun _=>?_|refine AL ?_|refine BY ?_ fun _ _ _=>?_|refine AX ?_ ?_)))<;>exact A3
 have D:∀a:List Prb,a.length≤9→Ok (Sum.elim (fun y:List Prb=>y.length≤9+10*m.fields.length∧(y.length=0→GdM0 s m)) No) (Ak (X6 s m l) Am (0,a)):=by
  intro a o
  refine BD (fun v:Nat×List Prb=>v.1≤m.fields.length∧v.2.length≤9+10*v.1∧(v.2.length=0→Dv m.fields v.1∧∀(j:Nat) (f:Fld),j<v.1→m.fields[j]?=some f→IT f∧LX f∧L3 s f∧Ou f)) (fun v:Nat×List Prb=>m.fields.length-v.1) ⟨by simp,by simpa using o,fun _=>⟨fun i x y hi=>by simp at hi,fun j f n=>by simp at n⟩⟩ (B0 (by omega)) fun v k=>?_
  obtain⟨v,r⟩:=v
  obtain⟨t,u,c⟩:=k
  dsimp only at t u c
  dsimp only[X6,oI,pd,mX,mT,oS,mB,pO,oz,mP,pe,nk,pk,pj,p4,nd,oy,bW,bl,gu,bM,dg,ey,gD,da,br,ix,AZ,vz,wg,vs,vg,ln,Ah,lc,cl,AO,wa,wi,fl,An,br]
  (repeat' (first|with_reducible (first|refine AR (fun _=>?_) fun _=>?_|refine AL ?_|refine BY ?_ fun _ _ _=>?_)|(with_reducible apply BR;(exact E _ _ _ (by omega));all_goals(intro _ _;try dsimp only))|(with_reducible apply AN;(exact Em _ _ _ _ _ (by omega));intro _ _)|(with_reducible apply AN;(exact LU _ (hm.f _ (by assumption)).n);intro _ _)|(with_reducible apply AN;(exact qu _ _ q);intro _ _)|(with_reducible apply AN;(exact o86 _ _ B);intro _ _)|(with_reducible apply AN;(exact o91 _);intro _ _)|(with_reducible apply AN;(exact o92 _ _ h);intro _ _)|(with_reducible apply AN;(exact o93 _ _ hm Cg);intro _ _)|(with_reducible apply AN;(exact o94 _ _ h (hm.f _ (by assumption)));intro _ _)|(with_reducible apply AN;(exact J7 _ _ _ _ _ (by omega) (hm.f _ (by assumption)).o);intro _ _)|(with_reducible apply BB;(exact fun _=>Em _ _ _ _ _ (by omega));intro _)|(with_reducible apply BB;(exact fun _=>LU _ (hm.f _ (by assumption)).n);intro _)|(with_reducible apply BB;(exact fun _=>qu _ _ q);intro _)|(with_reducible apply BB;(exact fun _=>o86 _ _ B);intro _)|(with_reducible apply BB;(exact fun _=>o91 _);intro _)|(with_reducible apply BB;(exact fun _=>o92 _ _ h);intro _)|(with_reducible apply BB;(exact fun _=>o93 _ _ hm Cg);intro _)|(with_reducible apply BB;(exact fun _=>o94 _ _ h (hm.f _ (by assumption)));intro _)|(with_reducible apply BB;(exact fun _=>J7 _ _ _ _ _ (by omega) (hm.f _ (by assumption)).o);intro _)|with_reducible (first|refine Gs ?_ fun _=>?_|refine AX ?_ ?_)))
  all_goals try exact Cg
  have hx:=‹decide (0<(v:Int))=true→m.fields[((v:Int)-1).toNat]?=some (m.fields.getD ((v:Int)-1).toNat Rw.z)∧_›
  have he:=‹m.fields[v]?=some _›
  dsimp only
  refine⟨⟨by exact Cg,by omega,fun p=>⟨ZAk (b:=m.fields.getD ((v:Int)-1).toNat Rw.z) (c (by omega)).1 he fun k=>?_,fun j f n d=>?_⟩⟩,by exact Cg⟩
  have ev:((v:Int)-1).toNat=v-1:=by omega
  refine⟨ev▸(hx (Yn (by omega))).1,?_⟩
  rcases Int.lt_or_le (m.fields.getD ((v:Int)-1).toNat Rw.z).num (Fld.num _)with A|z
  ·exact A
  ·exfalso
   have H:=Yb _ _▸And.intro (Yn (show(0:Int)<v by omega)) (Yn z)
   grind
  ·rcases Nat.lt_or_eq_of_le (Nat.le_of_lt_succ n)with n|rfl
   ·exact(c (by omega)).2 j f n d
   ·rw[he]at d
    cases d
    refine⟨(show _=true→IT _ by assumption) (Oz fun g=>?_),(show _=true→LX _ by assumption) (Oz fun g=>?_),(show _=true→L3 s _ by assumption) (Oz fun g=>?_),(show _=true→∀f,m.fields[j]?=some f→Ou f by assumption) (Oz fun g=>?_) _ he⟩
    all_goals(
     rw[Bool.not_eq_true]at g
     subst g
     simp only[CQ,SV]at*
     omega)
  have C:v=m.fields.length:=by exact Cg
  subst C
  exact⟨by exact Cg,fun p=>⟨(c p).1,fun j f d=>(c p).2 j f (Yd.1 d).1 d⟩⟩
 have F:∀a:List Prb,a.length≤20000000→Ok (Sum.elim (fun y:List Prb=>a.length≤y.length∧y.length≤a.length+m.gone.length) No) (Ak (Zk s m l) Am (0,a)):=by
  intro a o
  refine BD (fun v:Nat×List Prb=>v.1≤m.gone.length∧v.2.length≤a.length+v.1∧a.length≤v.2.length) (fun v:Nat×List Prb=>m.gone.length-v.1) ⟨by simp,by simp,by simp⟩ (B0 (by omega)) fun v k=>?_
  obtain⟨v,r⟩:=v
  obtain⟨t,u,c⟩:=k
  dsimp only at t u c
  dsimp only[Zk,mE,pE,nC,oE,br,ix,vz,wg,vs,ln,Ah,lc,cl,wa,fl,An,br]
  (repeat' (first|with_reducible (first|refine AR (fun _=>?_) fun _=>?_|refine AL ?_|refine BY ?_ fun _ _ _=>?_)|(with_reducible apply AN;(exact Em _ _ _ _ _ (by omega));intro _ _)|(with_reducible apply AN;(exact qv _ (hm.g _ (by assumption)));intro _ _)|with_reducible refine AX ?_ ?_))<;>exact A3
 dsimp only[jv,m9,ni,mD,pm,pN,pR,pu,mZ,oO,oP,nJ,nu,o0,ob,vz,vy,vw,wg,lr,lc,cl,fl,fr,An]
 (repeat' (first|with_reducible (first|refine AR (fun _=>?_) fun _=>?_|refine AL ?_)|(with_reducible apply BR;(exact D _ Cg);all_goals(intro _ _;try dsimp only))|(with_reducible apply BR;(exact F _ (by omega));all_goals(intro _ _;try dsimp only))|(with_reducible apply AN;(exact qt _ hm.n);intro _ _)|(with_reducible apply AN;(exact y3 _ _ _ _);intro _ _)|(with_reducible apply AN;(exact Em _ _ _ _ _ (by omega));intro _ _)|(with_reducible apply AN;(exact J7 _ _ _ _ _ (by omega) hm.o);intro _ _)|(with_reducible apply AN;(exact o96 _ _ _ _ _ (by omega) q);intro _ _)|(with_reducible apply AN;(exact o87 _ _ _ h hm hl);intro _ _)|with_reducible refine AX ?_ ?_))<;>exact A3
theorem o67(e:Enm)(hm:SzE e):Ok (fun y=>y.length≤20*(At (Cv e)+1)∧(y.length=0→L1 e)) (jE e):=by
 have A:=ZR9 e
 have z:=hm.il
 have g:=hm.r
 have q:∀(v:Nat) (r:List Prb) (x:Itm),v≤e.items.length→Ok (Sum.elim Tr No) (Ak (TG e v r x) Am (false,0)):=by
  intro w r x B
  refine BD (fun v:Bool×Nat=>v.2≤w) (fun v:Bool×Nat=>w-v.2) (by simp) (B0 (by omega)) fun v f=>?_
  obtain⟨b,i⟩:=v
  dsimp only at f
  dsimp only[TG,bb,br,ix,vz,wg,vs,ln,Ah,wa,fl,br]
  (repeat' (first|with_reducible (first|refine AR (fun _=>?_) fun _=>?_|refine AL ?_|refine BY ?_ fun _ _ _=>?_|refine AX ?_ ?_)))<;>exact A3
 have p:∀a:List Prb,a.length≤9→Ok (Sum.elim (fun y:List Prb=>a.length≤y.length∧y.length≤9+10*e.items.length) No) (Ak (Zp e) Am (0,a)):=by
  intro a d
  refine BD (fun v:Nat×List Prb=>v.1≤e.items.length∧a.length≤v.2.length∧v.2.length≤9+10*v.1) (fun v:Nat×List Prb=>e.items.length-v.1) ⟨by simp,by simp,by simpa using d⟩ (B0 (by omega)) fun v f=>?_
  obtain⟨v,r⟩:=v
  obtain⟨m,o,n⟩:=f
  dsimp only at m n o
  dsimp only[Zp,mK,pS,pl,ol,oG,nK,mL,p6,fv,gW,fX,gn,bm,dv,bt,dK,br,ix,AZ,vz,wg,vs,vg,ln,Ah,lc,cl,wa,wi,fl,An,br]
  (repeat' (first|with_reducible (first|refine AR (fun _=>?_) fun _=>?_|refine AL ?_|refine BY ?_ fun _ _ _=>?_)|(with_reducible apply BR;(exact q _ _ _ (by omega));all_goals(intro _ _;try dsimp only))|(with_reducible apply AN;(exact Em _ _ _ _ _ (by omega));intro _ _)|(with_reducible apply AN;(exact LU _ (hm.i _ (by assumption)).n);intro _ _)|(with_reducible apply AN;(exact qu _ _ g);intro _ _)|(with_reducible apply AN;(exact J7 _ _ _ _ _ (by omega) (hm.i _ (by assumption)).o);intro _ _)|with_reducible (first|refine Gs ?_ fun _=>?_|refine AX ?_ ?_)))<;>exact A3
 dsimp only[jE,oJ,oU,pX,pD,nr,od,p7,pK,nU,pY,pq,pB,oD,AZ,vz,vy,vw,wg,lr,lc,cl,fl,fr,An]
 (repeat' (first|with_reducible (first|refine AR (fun _=>?_) fun _=>?_|refine AL ?_)|(with_reducible apply BR;(exact p _ Cg);all_goals(intro _ _;try dsimp only))|(with_reducible apply AN;(exact qt _ hm.n);intro _ _)|(with_reducible apply AN;(exact Em _ _ _ _ _ Cg);intro _ _)|(with_reducible apply AN;(exact J7 _ _ _ _ _ (by omega) hm.o);intro _ _)|(with_reducible apply AN;(exact o96 _ _ _ _ _ (by omega) g);intro _ _)|with_reducible (first|refine Gs ?_ fun _=>?_|refine AX ?_ ?_)))
 all_goals try exact A3
 rename_i C a0 D a1 E k x F a3 b a4 G s H t
 refine⟨by exact Cg,fun u=>?_⟩
 have l:¬(e.items.length:Int)<1:=fun h=>by
  have:=k.2.2 (by simp only[h,Yq,OE])
  omega
 have j:(0:Int)<e.items.length:=by omega
 refine⟨_,(x (Yn j)).1,Decidable.not_not.1 fun c=>?_⟩
 have:=a3.2.2 (by simp only[j,c,Yq,YT,CQ,OO])
 omega
theorem o68(s:Scm)(e:Svc)(h:SzS s)(hm:SzW e):Ok (fun y=>y.length≤20*(At (Di e)+1)) (jw s e):=by
 have j:=ZR8 e
 have i:=hm.ml
 have g:∀b:List Prb,b.length≤9→Ok (Sum.elim (fun y:List Prb=>y.length≤9+10*e.methods.length) No) (Ak (XW s e) Am (0,b)):=by
  intro b a
  refine BD (fun v:Nat×List Prb=>v.1≤e.methods.length∧v.2.length≤9+10*v.1) (fun v:Nat×List Prb=>e.methods.length-v.1) ⟨by simp,by simpa using a⟩ (B0 (by omega)) fun v f=>?_
  obtain⟨v,r⟩:=v
  obtain⟨c,d⟩:=f
  dsimp only at c d
  dsimp only[XW,nO,nm,mJ,mq,ec,dj,eP,fD,cY,cT,fW,dB,cj,br,ix,AZ,vz,wg,vs,vg,ln,Ah,lc,cl,AO,wa,wi,fl,An,br]
  (repeat' (first|with_reducible (first|refine AR (fun _=>?_) fun _=>?_|refine AL ?_|refine BY ?_ fun _ _ _=>?_)|(with_reducible apply AN;(exact Em _ _ _ _ _ (by omega));intro _ _)|(with_reducible apply AN;(exact Sd _ _ h);intro _ _)|(with_reducible apply AN;(exact LU _ (hm.m _ (by assumption)).n);intro _ _)|(with_reducible apply AN;(exact J7 _ _ _ _ _ (by omega) (hm.m _ (by assumption)).o);intro _ _)|(with_reducible apply BB;(exact fun _=>Em _ _ _ _ _ (by omega));intro _)|(with_reducible apply BB;(exact fun _=>Sd _ _ h);intro _)|(with_reducible apply BB;(exact fun _=>LU _ (hm.m _ (by assumption)).n);intro _)|(with_reducible apply BB;(exact fun _=>J7 _ _ _ _ _ (by omega) (hm.m _ (by assumption)).o);intro _)|with_reducible (first|refine Gs ?_ fun _=>?_|refine AX ?_ ?_)))<;>exact A3
 dsimp only[jw,mO,o5,oM,oe,mS,nZ,pc,nh,nV,vz,vw,wg,lr,lc,cl,fl,fr,An]
 (repeat' (first|with_reducible (first|refine AR (fun _=>?_) fun _=>?_|refine AL ?_)|(with_reducible apply BR;(exact g _ Cg);all_goals(intro _ _;try dsimp only))|(with_reducible apply AN;(exact qt _ hm.n);intro _ _)|(with_reducible apply AN;(exact y3 _ _ _ _);intro _ _)|(with_reducible apply AN;(exact Em _ _ _ _ _ (by omega));intro _ _)|(with_reducible apply AN;(exact J7 _ _ _ _ _ (by omega) hm.o);intro _ _)|with_reducible refine AX ?_ ?_))<;>exact A3
structure Few (s:Scm):Prop where
 m:s.messages.length≤150
 e:s.enums.length≤150
 w:s.services.length≤150
theorem o37{s:Scm}(hs:At (Ar s)≤1048576):Ok (fun y=>y.length=0→(∀(i:Nat) (m:Msg),s.messages[i]?=some m→GdM0 s m)∧∀(i:Nat) (e:Enm),s.enums[i]?=some e→L1 e) (jM s):=by
 have h:=Fr hs
 have u:=h.ml
 have w:=h.el
 have x:=h.wl
 have t:AS (s.messages.map AU)+AS (s.enums.map Cv)+AS (s.services.map Di)≤1048576:=by
  simp only[Ar,At,bk]at hs
  omega
 have n:Ok (Sum.elim (fun y:List Prb=>y.length≤9) No) (Ak (Zu s) Am (1,[])):=by
  refine BD (fun v:Nat×List Prb=>1≤v.1∧v.1≤4∧v.2.length≤2*v.1) (fun v:Nat×List Prb=>4-v.1) ⟨by simp,by simp,by simp⟩ (B0 (by omega)) fun v g=>?_
  obtain⟨v,r⟩:=v
  obtain⟨c,d,f⟩:=g
  dsimp only at c d f
  dsimp only[Zu,fb,cV,ew,bY,aT,dN,cK,br,vz,wg,vs,ln,Ah,lc,cl,wa,fl,An,br]
  (repeat' (first|with_reducible (first|refine AR (fun _=>?_) fun _=>?_|refine AL ?_)|(with_reducible apply AN;(exact qs _ _ h);intro _ _)|(with_reducible apply AN;(exact Em _ _ _ _ _ (by omega));intro _ _)|(with_reducible apply AN;(exact o63 _ (by assumption));intro _ _)|with_reducible refine AX ?_ ?_))<;>exact A3
 have o:∀(a:List Prb) (l:List Bool),a.length≤10→l.length=s.messages.length→Ok (Sum.elim (fun y:List Prb=>y.length≤20971540∧(y.length=0→∀(i:Nat) (m:Msg),s.messages[i]?=some m→GdM0 s m)) No) (Ak (TW s l) Am (0,a)):=by
  intro a l b hl
  refine BD (fun v:Nat×List Prb=>v.1≤s.messages.length∧v.2.length≤10+20*AS ((s.messages.take v.1).map AU)∧(v.2.length=0→∀(i:Nat) (m:Msg),i<v.1→s.messages[i]?=some m→GdM0 s m)) (fun v:Nat×List Prb=>s.messages.length-v.1) ⟨by simp,D4 b (OH _ _),fun _ i m hi=>by simp at hi⟩ (B0 (by omega)) fun v g=>?_
  obtain⟨v,r⟩:=v
  obtain⟨c,d,f⟩:=g
  dsimp only at c d f
  have a1:=MZ AU s.messages v
  have j:=MZ AU s.messages (v+1)
  dsimp only[TW,mC,fE,Rx,br,ix,vz,wg,vs,ln,Ah,lc,aq,cl,wa,tw,fl,An,br]
  (repeat' (first|with_reducible (first|refine AR (fun _=>?_) fun _=>?_|refine AL ?_|refine BY ?_ fun _ _ _=>?_)|(with_reducible apply AN;(exact o66 _ _ _ h (h.m _ (by assumption)) hl);intro _ _)|with_reducible refine AX ?_ ?_))<;>first|(have a3:=VI AU ‹s.messages[v]?=some _›;exact A3)|exact A3
 have p:∀a:List Prb,a.length≤20971540→Ok (Sum.elim (fun y:List Prb=>a.length≤y.length∧y.length≤41943080∧(y.length=0→∀(i:Nat) (e:Enm),s.enums[i]?=some e→L1 e)) No) (Ak (Zr s) Am (0,a)):=by
  intro a b
  refine BD (fun v:Nat×List Prb=>v.1≤s.enums.length∧v.2.length≤20971540+20*AS ((s.enums.take v.1).map Cv)∧a.length≤v.2.length∧(v.2.length=0→∀(i:Nat) (e:Enm),i<v.1→s.enums[i]?=some e→L1 e)) (fun v:Nat×List Prb=>s.enums.length-v.1) ⟨by simp,D4 b (OH _ _),by simp,fun _ i e hi=>by simp at hi⟩ (B0 (by omega)) fun v g=>?_
  obtain⟨v,r⟩:=v
  obtain⟨c,d,f,k⟩:=g
  dsimp only at c d f k
  have a1:=MZ Cv s.enums v
  have j:=MZ Cv s.enums (v+1)
  dsimp only[Zr,ou,mw,QN,br,ix,vz,wg,vs,ln,Ah,lc,aq,cl,wa,tw,fl,An,br]
  (repeat' (first|with_reducible (first|refine AR (fun _=>?_) fun _=>?_|refine AL ?_|refine BY ?_ fun _ _ _=>?_)|(with_reducible apply AN;(exact o67 _ (h.e _ (by assumption)));intro _ _)|with_reducible refine AX ?_ ?_))<;>first|(have a3:=VI Cv ‹s.enums[v]?=some _›;exact A3)|exact A3
 have q:∀a:List Prb,a.length≤41943080→Ok (Sum.elim (fun y:List Prb=>a.length≤y.length) No) (Ak (Xq s) Am (0,a)):=by
  intro a b
  refine BD (fun v:Nat×List Prb=>v.1≤s.services.length∧v.2.length≤41943080+20*AS ((s.services.take v.1).map Di)∧a.length≤v.2.length) (fun v:Nat×List Prb=>s.services.length-v.1) ⟨by simp,D4 b (OH _ _),by simp⟩ (B0 (by omega)) fun v g=>?_
  obtain⟨v,r⟩:=v
  obtain⟨c,d,f⟩:=g
  dsimp only at c d f
  have a1:=MZ Di s.services v
  have j:=MZ Di s.services (v+1)
  dsimp only[Xq,m8,mI,Q7,br,ix,vz,wg,vs,ln,Ah,lc,aq,cl,wa,tw,fl,An,br]
  (repeat' (first|with_reducible (first|refine AR (fun _=>?_) fun _=>?_|refine AL ?_|refine BY ?_ fun _ _ _=>?_)|(with_reducible apply AN;(exact o68 _ _ h (h.w _ (by assumption)));intro _ _)|with_reducible refine AX ?_ ?_))<;>first|(have a3:=VI Di ‹s.services[v]?=some _›;exact A3)|exact A3
 dsimp only[jM,m7,oi,pr,pT,oA,pZ,oV,pI,oq,o6,m5,n8,vz,vw,wg,lr,lc,cl,AO,fl,fr]
 (repeat' (first|with_reducible (first|refine AR (fun _=>?_) fun _=>?_|refine AL ?_)|(with_reducible apply BR;(exact n);all_goals(intro _ _;try dsimp only))|(with_reducible apply BR;(exact o _ _ (by omega) (by assumption));all_goals(intro _ _;try dsimp only))|(with_reducible apply BR;(exact p _ (by omega));all_goals(intro _ _;try dsimp only))|(with_reducible apply BR;(exact q _ (by omega));all_goals(intro _ _;try dsimp only))|(with_reducible apply AN;(exact qs _ _ h);intro _ _)|(with_reducible apply AN;(exact o64 _ _ (by assumption) (by assumption));intro _ _)|(with_reducible apply AN;(exact o65 _ h);intro _ _)|(with_reducible apply AN;(exact Em _ _ _ _ _ (by omega));intro _ _)|(with_reducible apply BB;(exact fun _=>qs _ _ h);intro _)|(with_reducible apply BB;(exact fun _=>o64 _ _ (by assumption) (by assumption));intro _)|(with_reducible apply BB;(exact fun _=>o65 _ h);intro _)|(with_reducible apply BB;(exact fun _=>Em _ _ _ _ _ (by omega));intro _)|with_reducible refine AX ?_ ?_))<;>exact A3
theorem o16{s:Scm}(hs:At (Ar s)≤1048576):Ok (fun b=>b=true→∀(i:Nat) (m:Msg),s.messages[i]?=some m→GdM s m) (Va s):=by
 have k:Ok (fun b=>b=true→(∀(i:Nat) (m:Msg),s.messages[i]?=some m→GdM0 s m)∧∀(i:Nat) (e:Enm),s.enums[i]?=some e→L1 e) (Va s):=by
  dsimp only[Va,iG,vz,wg,lr,cl,An]
  (repeat' (first|with_reducible (first|refine AR (fun _=>?_) fun _=>?_|refine AL ?_)|(with_reducible apply AN;(exact o37 hs);intro _ _)|with_reducible refine AX ?_ ?_))<;>exact A3
 exact k.mono fun b h a i m hm=>⟨((h a).1 i m hm).asc,((h a).1 i m hm).df,(h a).2⟩
abbrev A2(v:Val):Prop:=At (Ag v)≤1048576
theorem Rn{v x:Val}(h:A2 v)(hx:x∈v.list):A2 x:=by
 have a:=C1 (e:=A7) hx
 rw[Gt]at a
 unfold A2 at*
 conv at h=>unfold Ag
 simp only[At,bk]at h
 omega
theorem GC{v:Val}{x:Pr}(h:A2 v)(hx:x∈v.pairs):A2 x.key∧A2 x.val:=by
 have a:=C1 (e:=Ao) hx
 have e:Ao x=Ag x.key++Ag x.val:=by rw[Ly];rfl
 rw[e,M6]at a
 unfold A2 at*
 conv at h=>unfold Ag
 simp only[At,bk]at h
 omega
theorem H6{v:Val}{x:Slt}(h:A2 v)(hx:x∈v.slots):A2 x.val:=by
 have a:=C1 (e:=Aq) hx
 have e:Aq x=D.int .i64 x.num::Ag x.val:=by rw[La];rfl
 rw[e,At]at a
 unfold A2 at*
 conv at h=>unfold Ag
 simp only[At,bk]at h
 omega
theorem VZ{α:Type}(p:α→Bool):∀l:List α,l.find? p=(l.findIdx? p).bind fun i=>l[i]?
 |[]=>rfl
 |x::l=>by
  rw[List.find?_cons,List.findIdx?_cons]
  cases h:p x with
  |true=>simp
  |false=>
   rw[VZ p l]
   cases List.findIdx? p l<;>simp
def C4{α:Type}[Inhabited α](l:List α)(z:α)(p:α→Bool):α×Bool:=(l.find? p).elim (z,false) fun x=>(x,true)
theorem P6{α:Type}[Inhabited α](l:List α)(z:α)(p:α→Bool):C4 l z p=match l.findIdx? p with|some i=>(l.getD i default,true)|none=>(z,false):=by
 unfold C4
 rw[VZ]
 cases h:l.findIdx? p with
 |none=>rfl
 |some i=>
  have:=(Kn.1 h).1
  simp[this]
def zM:Msg:=.mk ⟨#[]⟩ [] [] [] []
def zF:Fld:=.mk 0 ⟨#[]⟩ 0 0 (.mk 0 ⟨#[]⟩) ⟨#[]⟩ false (.mk 0 0 ⟨#[]⟩ [] [] [] []) []
theorem ZE(s:Scm)(n:ByteArray)(h:s.messages.length≤1048576):KX s n=some (C4 s.messages zM fun m=>decide (m.name=n)):=by
 have c:=Ew (B:=Ry s n) (N:=Am) s.messages (fun m=>decide (m.name=n)) (fun i=>(s.messages.getD i default,true)) () (fun i x hx=>by
  have a:=BI hx
  have d:=(Yd.1 hx).1
  have b:i+1<9223372036854775808:=by omega
  dsimp only[Ry,TR,br,ix,vz,wg,vs,AA,ln,Ah,wa,An,br]
  simp only[a,b,hx,Yq,Yt,Ya,Yg,YO]
  cases decide (x.name=n)<;>simp) (by simp[Ry,TR,br,ix,vz,wg,vs,AA,ln,Ah,wa,An,br]) (A1 (by omega))
 dsimp only[KX,dH,be,gR,wg,lr,lc]
 rw[c,P6]
 cases s.messages.findIdx? fun m=>decide (m.name=n)<;>rfl
theorem m84(l:List Msg)(n:ByteArray)(h:l.length≤1048576):U6 l (fun z=>MM z n)=some (C4 l zM fun m=>decide (m.name=n)):=by
 have c:=Ew (B:=RT l fun z=>MM z n) (N:=Am) l (fun m=>decide (m.name=n)) (fun i=>(l.getD i default,true)) () (fun i x hx=>by
  have a:=BI hx
  have d:=(Yd.1 hx).1
  have b:i+1<9223372036854775808:=by omega
  have e:MM x n=some (decide (x.name=n)):=rfl
  dsimp only[RT,Zc,br,ix,wg,vs,AA,ln,Ah,cf,wa,br]
  simp only[a,b,hx,e,Yq,Yt,Ya,Yg,YO]
  cases decide (x.name=n)<;>simp) (by simp[RT,Zc,br,ix,wg,vs,AA,ln,Ah,cf,wa,br]) (A1 (by omega))
 dsimp only[U6,gV,aS,cR,vz,wg,lr,lc,An]
 rw[c,P6]
 cases l.findIdx? fun m=>decide (m.name=n)<;>rfl
theorem M4{s:Scm}(h:SzS s)(n:ByteArray):(C4 s.messages zM fun m=>decide (m.name=n)).1.fields.length≤1048576:=by
 unfold C4
 cases e:s.messages.find? fun m=>decide (m.name=n)with
 |none=>simp[zM]
 |some m=>exact(h.m _ (HI e)).fl
theorem xy{v x:Val}(hx:x∈v.list):At (Ag x)<At (Ag v):=by
 have a:=C1 (e:=A7) hx
 rw[Gt]at a
 conv=>rhs;unfold Ag
 simp only[At,bk]
 omega
theorem XC{v:Val}{x:Pr}(hx:x∈v.pairs):At (Ag x.key)<At (Ag v)∧At (Ag x.val)<At (Ag v):=by
 have b:=C1 (e:=Ao) hx
 have e:Ao x=Ag x.key++Ag x.val:=by rw[Ly];rfl
 rw[e,M6]at b
 have a:At (Ag v)=At [.int .i64 v.kind,.int .u64 v.bits,.str v.text,.list (v.list.map A7),.list (v.pairs.map Ao),.list (v.slots.map Aq),.list (v.raws.map Av)]:=rfl
 rw[a]
 simp only[At,bk]
 omega
theorem vC{v:Val}{x:Slt}(hx:x∈v.slots):At (Ag x.val)<At (Ag v):=by
 have a:=C1 (e:=Aq) hx
 have e:Aq x=D.int .i64 x.num::Ag x.val:=by rw[La];rfl
 rw[e,At]at a
 have b:At (Ag v)=At [.int .i64 v.kind,.int .u64 v.bits,.str v.text,.list (v.list.map A7),.list (v.pairs.map Ao),.list (v.slots.map Aq),.list (v.raws.map Av)]:=rfl
 rw[b]
 simp only[At,bk]at a⊢
 omega
end Go.Proofs.YtjbijbkdiijhaaaGreat
