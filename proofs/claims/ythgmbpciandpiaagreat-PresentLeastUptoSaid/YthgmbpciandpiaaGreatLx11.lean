import Derived.Test.YthgmbpciandpiaaGreatLx10
import Derived.Test.YthgmbpciandpiaaGreatLx00
namespace Go.Eng
set_option linter.all false
open Go Go.RowKit
abbrev vL{α:Type}(e:α→List D)(xs:List α):AV:=.d (.list (xs.map e))
abbrev vS(s:ByteArray):AV:=.d (.str s)
abbrev vI(x:Int):AV:=.d (.int .i64 x)
abbrev vN(x:Nat):AV:=.d (.int .i64 (x:Int))
abbrev vB(x:Bool):AV:=.d (.bool x)
abbrev nl:Lf:=⟨[],[],[],[]⟩
abbrev pp(n:Nat):Nat×AV:=(n,.ptr (1,n) 0 0)
abbrev kk(d:Nat)(e:EK)(sz:Nat)(c:List AV):Ad×Blk:=((1,d),⟨0,true,e,sz,c⟩)
abbrev nG{α β:Type}:α→List β:=fun _=>[]
theorem nH{α:Type}{p:α→Prop}:∀x,p x→p x:=fun _ h=>h
abbrev cD(l:List D):List AV:=l.map .d
abbrev AH(ls:List Nat):Lf:=⟨ls,[],[],[]⟩
abbrev Ae(ls:List Nat)(ks:List (Ad×Bool)):Lf:=⟨ls,ks,[],[]⟩
class Rw (α:Type) where
 e:α→List D
 f:α→List D
 z:α
 s:Nat
 len:∀x,(e x).length=s
 ef:∀x,e x=f x
 s0:s≠0
instance:Rw ByteArray:=⟨AW,AW,⟨#[]⟩,1,fun _=>rfl,fun _=>rfl,by decide⟩
instance:Rw Int:=⟨Cr,Cr,0,1,fun _=>rfl,fun _=>rfl,by decide⟩
instance:Rw Bool:=⟨AU,AU,false,1,fun _=>rfl,fun _=>rfl,by decide⟩
instance:Rw Raw:=⟨AZ,AZ,ZY8,4,fun _=>rfl,fun _=>rfl,by decide⟩
instance:Rw Val:=⟨AM,Ag,LS,7,fun _=>by rw[F9];rfl,F9,by decide⟩
instance:Rw Pr:=⟨Ay,Dt,zPr,14,fun _=>by rw[Kq];rfl,Kq,by decide⟩
instance:Rw Slt:=⟨Ap,B2,ZZX,8,fun _=>by rw[GI];rfl,GI,by decide⟩
instance:Rw Nt:=⟨BU,BU,zNt,8,fun _=>rfl,fun _=>rfl,by decide⟩
instance:Rw Fld:=⟨An,An,ZZt,16,fun _=>rfl,fun _=>rfl,by decide⟩
instance:Rw Spn:=⟨CC,CC,ZZi,2,fun _=>rfl,fun _=>rfl,by decide⟩
instance:Rw Msg:=⟨AB,AB,ZZV,5,fun _=>rfl,fun _=>rfl,by decide⟩
instance:Rw Itm:=⟨Cw,Cw,ZZR,3,fun _=>rfl,fun _=>rfl,by decide⟩
instance:Rw Enm:=⟨Bz,Bz,ZZU,5,fun _=>rfl,fun _=>rfl,by decide⟩
instance:Rw Mth:=⟨G0,G0,ZZw,5,fun _=>rfl,fun _=>rfl,by decide⟩
instance:Rw Svc:=⟨C4,C4,ZZ8,3,fun _=>rfl,fun _=>rfl,by decide⟩
instance:Rw Prb:=⟨AA,AA,ZZ2,3,fun _=>rfl,fun _=>rfl,by decide⟩
inductive Lv (σ ξ ρ:Type) where
 |nx (v:σ)
 |ex (b:ξ)
 |rt (y:ρ)
structure En where
 l:Nat
 r:Ren
 Q:Exit→St→Prop
 P:AV→List Blk→Prop
structure Gd (C:Cx) (r:Ren):Prop where
 θ:r.θ=C.θ
 H:r.H0=C.H0
 κ:r.κ=C.κ
 no:r.no=C.no
structure COx (C:Cx) (os:Nat) (fx:List Nat):Prop where
 ok:CxOk C
 O:C.outs=os
 F:C.fx=fx
 W:∀q,q<os→C.no (C.κ (0,q))
abbrev CO(C:Cx)(os:Nat):Prop:=COx C os (Iz os)
def HL{β:Type}(L:β→Prop)(y:β):Prop:=L y
structure Ev (os:Nat) (β:Type) where
 E:En
 L:β→Prop
 C:Cx
 fx:List Nat
 co:COx C os fx
 g:Gd C E.r
 hl:E.l=C.l
structure PT (os:Nat) (β:Type) where
 a:AT
 q:En→Prop
 m:Option β
 n:Ev os β→Prop
 ok:∀E:Ev os β,n E→∀y,m=some y→HL E.L y→q E.E
section
variable {os:Nat} {β:Type}
structure Sp where
 w:AT→AT
 p:En→Prop
 c:Prop
 d:Decidable c
 ok:c→∀E,p E
structure Sz where
 w:AT→AT
 p:En→Prop
 ok:∀E,p E
theorem B0{c:Prop}[d:Decidable c]{m:Option β}{y:β}(h:(if c then m else none)=some y):c∧m=some y:=by
 grind
theorem bind_some{γ:Type}{m:Option γ}{k:γ→Option β}{y:β}(h:m.bind k=some y):∃x,m=some x∧k x=some y:=by
 cases m with
 |none=>cases h
 |some x=>exact⟨x,rfl,h⟩
@[reducible] def vs(s:Sp)(k:PT os β):PT os β:=⟨s.w k.a,fun E=>s.p E∧k.q E,@ite _ s.c s.d k.m none,k.n,fun E d y hm c=>by
 obtain⟨a,b⟩:=@B0 _ _ s.d _ _ hm
 exact⟨s.ok a E.E,k.ok E d y b c⟩⟩
@[reducible] def vg(b:Bool)(s:Sp)(k:PT os β):PT os β:=⟨s.w k.a,fun E=>(b=true→s.p E)∧k.q E,@ite _ (b=true→s.c) (@instDecidableForall _ _ _ s.d) k.m none,k.n,fun E f y hm d=>by
 obtain⟨a,c⟩:=@B0 _ _ (@instDecidableForall _ _ _ s.d) _ _ hm
 exact⟨fun e=>s.ok (a e) E.E,k.ok E f y c d⟩⟩
@[reducible] def vz(s:Sz)(k:PT os β):PT os β:=⟨s.w k.a,fun E=>s.p E∧k.q E,k.m,k.n,fun E b y hm a=>⟨s.ok E.E,k.ok E b y hm a⟩⟩
@[reducible] def vy(b:Bool)(s:Sz)(k:PT os β):PT os β:=⟨s.w k.a,fun E=>(b=true→s.p E)∧k.q E,k.m,k.n,fun E c y hm a=>⟨fun _=>s.ok E.E,k.ok E c y hm a⟩⟩
@[reducible] def v2(s:Sp)(b c:En→Prop)(h:s.c→∀E,b E∧c E)(k:PT os β):PT os β:=⟨s.w k.a,fun E=>b E∧c E∧k.q E,@ite _ s.c s.d k.m none,k.n,fun E f y hm e=>by
 obtain⟨a,d⟩:=@B0 _ _ s.d _ _ hm
 exact⟨(h a E.E).1,(h a E.E).2,k.ok E f y d e⟩⟩
@[reducible] def vw(w:AT→AT)(k:PT os β):PT os β:=⟨w k.a,k.q,k.m,k.n,k.ok⟩
@[reducible] def wg(k:PT os β):PT os β:=⟨.go k.a,k.q,k.m,k.n,k.ok⟩
@[reducible] def br(b:Bool)(t f:PT os β):PT os β:=⟨.br t.a f.a,fun E=>(b=true→t.q E)∧(b=false→f.q E),if b=true then t.m else f.m,fun E=>t.n E∧f.n E,fun E c y hm a=>
 ⟨fun e=>t.ok E c.1 y (by rw[Yg e]at hm;exact hm) a,fun e=>f.ok E c.2 y (by rw[Yj (by rw[e];decide)]at hm;exact hm) a⟩⟩
@[reducible] def bT(b:Bool)(t:PT os β):PT os β:=⟨.one true t.a,fun E=>(b=true→t.q E)∧(b=false→False),if b=true then t.m else none,t.n,fun E c y hm a=>by
 obtain⟨h,hm⟩:=B0 hm
 exact⟨fun _=>t.ok E c y hm a,fun e=>absurd (h.symm.trans e) (by decide)⟩⟩
@[reducible] def bF(b:Bool)(f:PT os β):PT os β:=⟨.one false f.a,fun E=>(b=true→False)∧(b=false→f.q E),if b=false then f.m else none,f.n,fun E c y hm a=>by
 obtain⟨h,hm⟩:=B0 hm
 exact⟨fun e=>absurd (e.symm.trans h) (by decide),fun _=>f.ok E c y hm a⟩⟩
@[reducible] def al{α:Type}(e:α→List D)(xs:List α)(neg:Bool)(k:Bool→PT os β):PT os β:=⟨(k neg).a,fun E=>∀b:Bool,(xs.map e≠[]→b=neg)→(k b).q E,(k neg).m,
 fun E=>(∀b,(k b).n E)∧∀b,xs=[]→(k b).m=(k neg).m,fun E a y hm c b f=>by
  by_cases h:xs=[]
  ·exact(k b).ok E (a.1 b) y ((a.2 b h).trans hm) c
  ·have:b=neg:=f (by intro d;exact h (Xy.1 d))
   subst this
   exact(k b).ok E (a.1 b) y hm c⟩
@[reducible] def lf(p:En→Prop)(y:β):PT os β:=⟨.nil,p,some y,fun E=>HL E.L y→p E.E,fun E b z hm a=>b (by cases hm;exact a)⟩
@[reducible] def lc(s:St)(m:Option β):PT os β:=⟨.nil,fun E=>E.Q .normal s,m,fun E=>∀y,m=some y→HL E.L y→E.E.Q .normal s,fun E b y hm a=>b y hm a⟩
@[reducible] def lfe(c:Prop)[Decidable c](p:En→Prop)(y:β):PT os β:=⟨.nil,p,if c then some y else none,fun E=>c→HL E.L y→p E.E,fun E d z hm b=>by
 obtain⟨a,hm⟩:=B0 hm
 cases hm
 exact d a b⟩
@[reducible] def lr(er:β→AV)(bs:β→List Blk)(y:β):PT os β:=lf (fun E=>E.P (er y) (bs y)) y
section
variable {σ ξ ρ:Type}
@[reducible] def Au(er:ρ→AV)(bs:ρ→List Blk)(y:ρ):PT os (Lv σ ξ ρ):=lf (fun E=>E.P (er y) (bs y)) (.rt y)
@[reducible] def ln(S:σ→St)(v:σ):PT os (Lv σ ξ ρ):=lf (fun E=>E.Q .normal (S v)) (.nx v)
@[reducible] def Aj(X:ξ→Nat×St)(b:ξ):PT os (Lv σ ξ ρ):=lf (fun E=>E.Q (.exit (X b).1) (X b).2) (.ex b)
end
section
variable {α:Type} [Rw α]
@[reducible] def ix(xs:List α)(i:Nat)(k:α→PT os β):PT os β:=
 ⟨.ds (Rw.f (xs.getD i Rw.z)) (k (xs.getD i Rw.z)).a,fun E=>Iw (xs.map Rw.e) ((i:Nat):Int) (Rw.f (xs.getD i Rw.z))∧(k (xs.getD i Rw.z)).q E,xs[i]?.bind fun x=>(k x).m,fun E=>∀x,(k x).n E,fun E d y hm c=>by
  obtain⟨x,a,b⟩:=bind_some hm
  have e:xs.getD i Rw.z=x:=by rw[Ym,a];rfl
  rw[e]
  exact⟨Zxe a Rw.ef,(k x).ok E (d x) y b c⟩⟩
@[reducible] def CF(xs:List α)(i:Int)(k:α→PT os β):PT os β:=
 ⟨.ds (Rw.f (xs.getD i.toNat Rw.z)) (k (xs.getD i.toNat Rw.z)).a,fun E=>Iw (xs.map Rw.e) i (Rw.f (xs.getD i.toNat Rw.z))∧(k (xs.getD i.toNat Rw.z)).q E,if 0≤i then xs[i.toNat]?.bind fun x=>(k x).m else none,fun E=>∀x,(k x).n E,fun E g y hm d=>by
  obtain⟨b,hm⟩:=B0 hm
  obtain⟨x,a,c⟩:=bind_some hm
  have e:xs.getD i.toNat Rw.z=x:=by rw[Ym,a];rfl
  have f:=(Yd.1 a).1
  exact⟨ZnQ b (by omega) Rw.ef,by rw[e];exact(k x).ok E (g x) y c d⟩⟩
@[reducible] def AS(b:Bool)(xs:List α)(i:Int)(k:α→PT os β):PT os β:=
 ⟨.ds (Rw.f (xs.getD i.toNat Rw.z)) (k (xs.getD i.toNat Rw.z)).a,fun E=>(b=true→Iw (xs.map Rw.e) i (Rw.f (xs.getD i.toNat Rw.z)))∧(k (xs.getD i.toNat Rw.z)).q E,if(b=true→0≤i∧i<xs.length)then(k (xs.getD i.toNat Rw.z)).m else none,fun E=>∀x,(k x).n E,fun E d y hm c=>by
  obtain⟨a,hm⟩:=B0 hm
  exact⟨fun e=>ZnQ (a e).1 (a e).2 Rw.ef,(k _).ok E (d _) y hm c⟩⟩
@[reducible] def ca(xs:List α)(j:Nat)(k:α→PT os β):PT os β:=
 ⟨.cs ((Rw.f (xs.getD j Rw.z)).map .d) (k (xs.getD j Rw.z)).a,fun E=>Gc (Af Rw.e xs) (j*Rw.s α) ((Rw.f (xs.getD j Rw.z)).map .d)∧(k (xs.getD j Rw.z)).q E,xs[j]?.bind fun x=>(k x).m,fun E=>∀x,(k x).n E,fun E d y hm c=>by
  obtain⟨x,a,b⟩:=bind_some hm
  have e:xs.getD j Rw.z=x:=by rw[Ym,a];rfl
  rw[e]
  exact⟨ZqB a Rw.len Rw.ef,(k x).ok E (d x) y b c⟩⟩
@[reducible] def cag(b:Bool)(xs:List α)(j:Nat)(k:α→PT os β):PT os β:=
 ⟨.cs ((Rw.f (xs.getD j Rw.z)).map .d) (k (xs.getD j Rw.z)).a,fun E=>(b=true→Gc (Af Rw.e xs) (j*Rw.s α) ((Rw.f (xs.getD j Rw.z)).map .d))∧(k (xs.getD j Rw.z)).q E,if(b=true→j<xs.length)then(k (xs.getD j Rw.z)).m else none,fun E=>∀x,(k x).n E,fun E d y hm c=>by
  obtain⟨a,hm⟩:=B0 hm
  exact⟨fun e=>Zh0 (a e) Rw.len Rw.ef,(k _).ok E (d _) y hm c⟩⟩
@[reducible] def st(xs:List α)(j:Nat)(y:α):Sp:=⟨.cs (Af Rw.e (xs.set j y)),fun _=>K9 (Af Rw.e xs) (j*Rw.s α) ((Rw.f y).map .d) (Af Rw.e (xs.set j y)),j<xs.length,inferInstance,fun h _=>ZBB h Rw.len Rw.ef⟩
@[reducible] def Ah(xs:List α):Sz:=⟨.num ((xs.length:Nat):Int),fun _=>BN ((xs.map (Rw.e (α:=α))).length:Nat) ((xs.length:Nat):Int),fun _=>ZJl _ _⟩
@[reducible] def fl(xs:List α):Sz:=⟨id,fun _=>Gh (Af Rw.e xs),fun _=>A2 _ _⟩
@[reducible] def fz(xs:List α):Sz:=⟨id,fun _=>K8 (Af Rw.e xs) 0 xs.length (Rw.s α) (xs.map Rw.e),fun _=>Zs3 _ Rw.s0 Rw.len⟩
@[reducible] def fr(xs:List α):Sz:=⟨.av (.d (.list (xs.map Rw.e))),fun _=>K8 (Af Rw.e xs) 0 xs.length (Rw.s α) (xs.map Rw.e),fun _=>Zs3 _ Rw.s0 Rw.len⟩
@[reducible] def ap(xs:List α)(y:α)(k:PT os β):PT os β:=⟨.nat 1 (.cs (Af Rw.e [y]) (.cs (Af Rw.e (xs++[y])) (.nat (xs++[y]).length k.a))),
 fun E=>Em (Rw.s α) [] (.d (.list [Rw.f y])) 1 (Af Rw.e [y])∧Ix (Af Rw.e xs) 0 xs.length 1 (Rw.s α) 256 (Af Rw.e [y]) (Af Rw.e (xs++[y])) (xs++[y]).length∧k.q E,
 if xs.length<549755813887 then k.m else none,k.n,fun E b z hm a=>by
  obtain⟨c,hm⟩:=B0 hm
  exact⟨Zl3 _ Rw.len Rw.ef,OS xs [y] Rw.len rfl rfl (by rw[Jo];omega),k.ok E b z hm a⟩⟩
@[reducible] def aq(xs ys:List α)(k:PT os β):PT os β:=⟨.nat ys.length (.cs (Af Rw.e ys) (.cs (Af Rw.e (xs++ys)) (.nat (xs++ys).length k.a))),
 fun E=>Em (Rw.s α) [] (.d (.list (ys.map Rw.e))) ys.length (Af Rw.e ys)∧Ix (Af Rw.e xs) 0 xs.length ys.length (Rw.s α) 256 (Af Rw.e ys) (Af Rw.e (xs++ys)) (xs++ys).length∧k.q E,
 if xs.length+ys.length<549755813888 then k.m else none,k.n,fun E b z hm a=>by
  obtain⟨c,hm⟩:=B0 hm
  exact⟨TO _ _ Rw.len,OS xs ys Rw.len rfl rfl (by omega),k.ok E b z hm a⟩⟩
@[reducible] def aqf(x:α)(ys:List α)(k:PT os β):PT os β:=⟨.nat ys.length (.cs (Af Rw.e ys) (.cs (Af Rw.e ([x]++ys)) (.nat ([x]++ys).length k.a))),
 fun E=>Em (Rw.s α) [] (.d (.list (ys.map Rw.e))) ys.length (Af Rw.e ys)∧Ix ((Rw.f x).map .d) 0 1 ys.length (Rw.s α) 256 (Af Rw.e ys) (Af Rw.e ([x]++ys)) ([x]++ys).length∧k.q E,
 if ys.length<549755813887 then k.m else none,k.n,fun E b z hm a=>by
  obtain⟨c,hm⟩:=B0 hm
  have e:(Rw.f x).map AV.d=Af Rw.e [x]:=by rw[←Rw.ef x];simp[Af]
  rw[e]
  exact⟨TO _ _ Rw.len,OS [x] ys Rw.len rfl rfl (by rw[Jo];omega),k.ok E b z hm a⟩⟩
@[reducible] def ar(xs ys:List α)(kk:Ad)(g:Nat)(k:PT os β):PT os β:=⟨.nat ys.length (.cs (Af Rw.e ys) (.cs (Af Rw.e (xs++ys)) (.nat (xs++ys).length k.a))),
 fun E=>Em (Rw.s α) (Af Rw.e ys) (.ref kk g 0 ys.length) ys.length (Af Rw.e ys)∧Ix (Af Rw.e xs) 0 xs.length ys.length (Rw.s α) 256 (Af Rw.e ys) (Af Rw.e (xs++ys)) (xs++ys).length∧k.q E,
 if xs.length+ys.length<549755813888 then k.m else none,k.n,fun E b z hm a=>by
  obtain⟨c,hm⟩:=B0 hm
  exact⟨ZAZ _ _ _ Rw.len,OS xs ys Rw.len rfl rfl (by omega),k.ok E b z hm a⟩⟩
@[reducible] def a1(y:α)(k:PT os β):PT os β:=⟨.nat 1 (.cs (Af Rw.e [y]) k.a),fun E=>Em (Rw.s α) [] (.d (.list [Rw.f y])) 1 (Af Rw.e [y])∧N5 1 256∧k.q E,k.m,k.n,fun E b z hm a=>⟨Zl3 _ Rw.len Rw.ef,by unfold N5;decide,k.ok E b z hm a⟩⟩
@[reducible] def a0(ys:List α)(k:PT os β):PT os β:=⟨.nat ys.length (.cs (Af Rw.e ys) k.a),fun E=>Em (Rw.s α) [] (.d (.list (ys.map Rw.e))) ys.length (Af Rw.e ys)∧N5 ys.length 256∧k.q E,if ys.length<549755813888 then k.m else none,k.n,fun E b z hm a=>by
  obtain⟨c,hm⟩:=B0 hm
  exact⟨TO _ _ Rw.len,by unfold N5;omega,k.ok E b z hm a⟩⟩
@[reducible] def ap2(xs:List α)(y z:α)(k:PT os β):PT os β:=⟨.nat 2 (.cs (Af Rw.e [y,z]) (.cs (Af Rw.e (xs++[y,z])) (.nat (xs++[y,z]).length k.a))),
 fun E=>Em (Rw.s α) [] (.d (.list [Rw.f y,Rw.f z])) 2 (Af Rw.e [y,z])∧Ix (Af Rw.e xs) 0 xs.length 2 (Rw.s α) 256 (Af Rw.e [y,z]) (Af Rw.e (xs++[y,z])) (xs++[y,z]).length∧k.q E,
 if xs.length<549755813886 then k.m else none,k.n,fun E b w hm a=>by
  obtain⟨c,hm⟩:=B0 hm
  refine⟨?_,OS xs [y,z] Rw.len rfl rfl (by simp only[DW,EW];omega),k.ok E b w hm a⟩
  have:=TO (sz:=Rw.s α) (e:=Rw.e) ([]:List AV) [y,z] Rw.len
  rw[←Rw.ef,←Rw.ef];exact this⟩
@[reducible] def ms(m:Nat)(z:α)(a:List AV)(d:(Rw.e z).map .d=a)(k:PT os β):PT os β:=⟨.nat (List.replicate m z).length (.cs (Af Rw.e (List.replicate m z)) k.a),
 fun E=>oL ((m:Nat):Int) ((m:Nat):Int) 256 (List.replicate m z).length a (Af Rw.e (List.replicate m z))∧k.q E,if m≤549755813888 then k.m else none,k.n,fun E c y hm b=>by
  obtain⟨e,hm⟩:=B0 hm
  exact⟨⟨by rw[oX],NK _,by omega,by rw[oX];exact ZJc d m⟩,k.ok E c y hm b⟩⟩
@[reducible] def rn(j d n:Nat)(xs:List α)(k:PT os β):PT os β:=⟨.reb j d xs.length (Af Rw.e xs) k.a,
 fun E=>(n=xs.length∧0*Rw.s α≤(Af (Rw.e (α:=α)) xs).length∧(Af Rw.e xs).drop (0*Rw.s α)=Af Rw.e xs)∧k.q E,if n=xs.length then k.m else none,k.n,fun E c y hm b=>by
  obtain⟨a,hm⟩:=B0 hm
  exact⟨⟨a,by rw[He];exact Ft _,by rw[He];rfl⟩,k.ok E c y hm b⟩⟩
end
@[reducible] def Ji(q:Nat)(vs:List AV)(low:∀r:Ren,FO r (0,q) vs)(k:PT os β)(c:Nat.ble (q+1) os=true:=by kernel_rfl):PT os β:=
 ⟨k.a,fun E=>Lb E.r (0,q)∧FO E.r (0,q) vs∧k.q E,k.m,k.n,fun E b y hm a=>⟨⟨rfl,by rw[E.g.no,E.g.κ];exact E.co.W q (Yh c)⟩,low _,k.ok E b y hm a⟩⟩
inductive Bd
 |no
 |nt (n:Nat)
 |it (x:Int)
def Bd.ov:Bd→Option AV
 |.no=>none
 |.nt n=>some (.d (.int .i64 (n:Int)))
 |.it x=>some (.d (.int .i64 x))
def Bd.vl(d:Nat):Bd→Nat
 |.no=>d
 |.nt n=>n
 |.it x=>x.toNat
def Bd.c:Bd→Prop
 |.it x=>0≤x
 |_=>True
instance (b:Bd):Decidable b.c:=by cases b<;>unfold Bd.c<;>infer_instance
theorem Bd.ok{d:Nat}{b:Bd}(h:b.c):Dm d b.ov (b.vl d):=by
 cases b with
 |no=>rfl
 |nt n=>rfl
 |it x=>exact(Int.toNat_of_nonneg h).symm
@[reducible] def ss(s:ByteArray)(lo hi:Bd)(k:ByteArray→PT os β):PT os β:=
 ⟨.nat (lo.vl 0) (.nat (hi.vl s.size) (k (s.extract (lo.vl 0) (hi.vl s.size))).a),fun E=>Dm 0 lo.ov (lo.vl 0)∧Dm s.size hi.ov (hi.vl s.size)∧EV (lo.vl 0) (hi.vl s.size) s.size∧(k (s.extract (lo.vl 0) (hi.vl s.size))).q E,
 if lo.c∧hi.c∧lo.vl 0≤hi.vl s.size∧hi.vl s.size≤s.size then(k (s.extract (lo.vl 0) (hi.vl s.size))).m else none,fun E=>∀x,(k x).n E,fun E c y hm b=>by
  obtain⟨a,hm⟩:=B0 hm
  exact⟨Bd.ok a.1,Bd.ok a.2.1,a.2.2,(k _).ok E (c _) y hm b⟩⟩
@[reducible] def ssg(b:Bool)(s:ByteArray)(lo hi:Bd)(k:ByteArray→PT os β):PT os β:=
 ⟨.nat (lo.vl 0) (.nat (hi.vl s.size) (k (s.extract (lo.vl 0) (hi.vl s.size))).a),fun E=>(b=true→Dm 0 lo.ov (lo.vl 0))∧(b=true→Dm s.size hi.ov (hi.vl s.size))∧(b=true→EV (lo.vl 0) (hi.vl s.size) s.size)∧(k (s.extract (lo.vl 0) (hi.vl s.size))).q E,
 if(b=true→lo.c∧hi.c∧lo.vl 0≤hi.vl s.size∧hi.vl s.size≤s.size)then(k (s.extract (lo.vl 0) (hi.vl s.size))).m else none,fun E=>∀x,(k x).n E,fun E d y hm c=>by
  obtain⟨a,hm⟩:=B0 hm
  exact⟨fun e=>Bd.ok (a e).1,fun e=>Bd.ok (a e).2.1,fun e=>(a e).2.2,(k _).ok E (d _) y hm c⟩⟩
section
variable {α:Type} [Rw α]
@[reducible] def sL(xs:List α)(lo hi:Bd)(k:List α→PT os β):PT os β:=
 ⟨.nat (lo.vl 0) (.nat (hi.vl xs.length) (.av (.d (.list (((xs.drop (lo.vl 0)).take (hi.vl xs.length-lo.vl 0)).map Rw.e))) (k ((xs.drop (lo.vl 0)).take (hi.vl xs.length-lo.vl 0))).a)),
 fun E=>Dm 0 lo.ov (lo.vl 0)∧Dm (xs.map (Rw.e (α:=α))).length hi.ov (hi.vl xs.length)∧EV (lo.vl 0) (hi.vl xs.length) (xs.map (Rw.e (α:=α))).length∧Nw (xs.map Rw.e) (Rw.s α) (lo.vl 0) (hi.vl xs.length) (((xs.drop (lo.vl 0)).take (hi.vl xs.length-lo.vl 0)).map Rw.e)∧(k ((xs.drop (lo.vl 0)).take (hi.vl xs.length-lo.vl 0))).q E,
 if lo.c∧hi.c∧lo.vl 0≤hi.vl xs.length∧hi.vl xs.length≤xs.length then(k ((xs.drop (lo.vl 0)).take (hi.vl xs.length-lo.vl 0))).m else none,fun E=>∀x,(k x).n E,fun E c y hm b=>by
  obtain⟨a,hm⟩:=B0 hm
  exact⟨Bd.ok a.1,by rw[YC];exact Bd.ok a.2.1,Zug a.2.2,Zuw Rw.len,(k _).ok E (c _) y hm b⟩⟩
@[reducible] def sLg(b:Bool)(xs:List α)(lo hi:Bd)(k:List α→PT os β):PT os β:=
 ⟨.nat (lo.vl 0) (.nat (hi.vl xs.length) (.av (.d (.list (((xs.drop (lo.vl 0)).take (hi.vl xs.length-lo.vl 0)).map Rw.e))) (k ((xs.drop (lo.vl 0)).take (hi.vl xs.length-lo.vl 0))).a)),
 fun E=>(b=true→Dm 0 lo.ov (lo.vl 0))∧(b=true→Dm (xs.map (Rw.e (α:=α))).length hi.ov (hi.vl xs.length))∧(b=true→EV (lo.vl 0) (hi.vl xs.length) (xs.map (Rw.e (α:=α))).length)∧(b=true→Nw (xs.map Rw.e) (Rw.s α) (lo.vl 0) (hi.vl xs.length) (((xs.drop (lo.vl 0)).take (hi.vl xs.length-lo.vl 0)).map Rw.e))∧(k ((xs.drop (lo.vl 0)).take (hi.vl xs.length-lo.vl 0))).q E,
 if(b=true→lo.c∧hi.c∧lo.vl 0≤hi.vl xs.length∧hi.vl xs.length≤xs.length)then(k ((xs.drop (lo.vl 0)).take (hi.vl xs.length-lo.vl 0))).m else none,fun E=>∀x,(k x).n E,fun E d y hm c=>by
  obtain⟨a,hm⟩:=B0 hm
  exact⟨fun e=>Bd.ok (a e).1,fun e=>by rw[YC];exact Bd.ok (a e).2.1,fun e=>Zug (a e).2.2,fun _=>Zuw Rw.len,(k _).ok E (d _) y hm c⟩⟩
end
@[reducible] def sR(len off:Nat)(lo hi:Bd)(k:PT os β):PT os β:=
 ⟨.nat (lo.vl 0) (.nat (hi.vl len) (.nat (off+lo.vl 0) (.nat (hi.vl len-lo.vl 0) k.a))),fun E=>Dm 0 lo.ov (lo.vl 0)∧Dm len hi.ov (hi.vl len)∧EV (lo.vl 0) (hi.vl len) len∧Xq off (lo.vl 0) (hi.vl len) (off+lo.vl 0) (hi.vl len-lo.vl 0)∧k.q E,
 if lo.c∧hi.c∧lo.vl 0≤hi.vl len∧hi.vl len≤len then k.m else none,k.n,fun E c y hm b=>by
  obtain⟨a,hm⟩:=B0 hm
  exact⟨Bd.ok a.1,Bd.ok a.2.1,a.2.2,⟨rfl,rfl⟩,k.ok E c y hm b⟩⟩
@[reducible] def A7(n:Nat):Sz:=⟨.num ((n:Nat):Int),fun _=>BN ((n:Nat):Int) ((n:Nat):Int),fun _=>rfl⟩
@[reducible] def wa(a b:Nat):Sp:=⟨.num ((a+b:Nat):Int),fun _=>CJ .i64 (((a:Nat):Int)+((b:Nat):Int)) ((a+b:Nat):Int),a+b<9223372036854775808,inferInstance,fun h _=>th (by omega) (by omega) (by omega)⟩
@[reducible] def wi(x:Int):Sp:=⟨.num x,fun _=>CJ .i64 x x,-9223372036854775808≤x∧x<9223372036854775808,inferInstance,fun h _=>th rfl h.1 h.2⟩
@[reducible] def wk(i:IntKind)(x:Int):Sz:=⟨.num (i.wrap x),fun _=>CJ i x (i.wrap x),fun _=>rfl⟩
@[reducible] def ir(i len sz:Nat):Sp:=⟨.nat (i*sz),fun _=>LC ((i:Nat):Int) len 0 sz (i*sz),i<len,inferInstance,fun h _=>ZU4 h⟩
@[reducible] def KT(i:Int)(len sz:Nat):Sp:=⟨.nat (i.toNat*sz),fun _=>LC i len 0 sz (i.toNat*sz),0≤i∧i<len,inferInstance,fun h _=>ZwU h.1 h.2⟩
@[reducible] def ib(s:ByteArray)(i:Nat)(k:UInt8→PT os β):PT os β:=
 ⟨.num ((s.data.toList.getD i 0).toNat:Nat) (k (s.data.toList.getD i 0)).a,fun E=>II s (i:Nat) ((s.data.toList.getD i 0).toNat:Nat)∧(k (s.data.toList.getD i 0)).q E,s.data.toList[i]?.bind fun x=>(k x).m,fun E=>∀x,(k x).n E,fun E f y hm d=>by
  obtain⟨x,b,c⟩:=bind_some hm
  have e:s.data.toList.getD i 0=x:=by rw[Ym,b];rfl
  have a:=(Yd.1 b).1
  exact⟨ZxU (by simpa using a),by rw[e];exact(k x).ok E (f x) y c d⟩⟩
@[reducible] def F0(b:Bool)(s:ByteArray)(i:Int)(k:UInt8→PT os β):PT os β:=
 ⟨.num ((s.data.toList.getD i.toNat 0).toNat:Nat) (k (s.data.toList.getD i.toNat 0)).a,fun E=>(b=true→II s i ((s.data.toList.getD i.toNat 0).toNat:Nat))∧(k (s.data.toList.getD i.toNat 0)).q E,if(b=true→0≤i∧i<s.size)then(k (s.data.toList.getD i.toNat 0)).m else none,fun E=>∀x,(k x).n E,fun E d y hm c=>by
  obtain⟨a,hm⟩:=B0 hm
  exact⟨fun e=>Zn4 (a e).1 (a e).2,(k _).ok E (d _) y hm c⟩⟩
@[reducible] def Qf(s:ByteArray)(i:Int)(k:UInt8→PT os β):PT os β:=
 ⟨.num ((s.data.toList.getD i.toNat 0).toNat:Nat) (k (s.data.toList.getD i.toNat 0)).a,fun E=>II s i ((s.data.toList.getD i.toNat 0).toNat:Nat)∧(k (s.data.toList.getD i.toNat 0)).q E,if 0≤i∧i<s.size then(k (s.data.toList.getD i.toNat 0)).m else none,fun E=>∀x,(k x).n E,fun E c y hm b=>by
  obtain⟨a,hm⟩:=B0 hm
  exact⟨Zn4 a.1 a.2,(k _).ok E (c _) y hm b⟩⟩
@[reducible] def ad(a b:ByteArray)(k:ByteArray→PT os β):PT os β:=⟨(k (a++b)).a,fun E=>ZYx a b∧(k (a++b)).q E,if a.size+b.size≤9223372036854775807 then(k (a++b)).m else none,fun E=>∀x,(k x).n E,fun E e y hm d=>by
  obtain⟨c,hm⟩:=B0 hm
  exact⟨c,(k _).ok E (e _) y hm d⟩⟩
@[reducible] def nP(k:IntKind)(x y:Int):Sz:=⟨.num (EM k x y),fun _=>BN (EM k x y) (EM k x y),fun _=>rfl⟩
@[reducible] def wor(k:IntKind)(x y:Int):Sz:=⟨.num (Jh k x y),fun _=>BN (Jh k x y) (Jh k x y),fun _=>rfl⟩
@[reducible] def wcp(k:IntKind)(x:Int):Sz:=⟨.num (Ln k x),fun _=>BN (Ln k x) (Ln k x),fun _=>rfl⟩
def ZX3(k:IntKind)(x y:Int):Int:=x.fdiv (2^(min y.toNat k.bits))
def ZXF(k:IntKind)(x y:Int):Int:=k.wrap (x*2^(min y.toNat k.bits))
def ZXv(k:IntKind)(x y:Int):Int:=k.wrap (x.tdiv y)
def IP(_:IntKind)(x y:Int):Int:=x.tmod y
@[reducible] def shr(i:IntKind)(x y:Int)(k:PT os β):PT os β:=v2 ⟨.num (ZX3 i x y),fun _=>True,0≤y,inferInstance,fun _ _=>trivial⟩ (fun _=>QD 0 y) (fun _=>BN (x.fdiv (2^(min y.toNat i.bits))) (ZX3 i x y)) (fun h _=>⟨h,rfl⟩) k
@[reducible] def shl(i:IntKind)(x y:Int)(k:PT os β):PT os β:=v2 ⟨.num (ZXF i x y),fun _=>True,0≤y,inferInstance,fun _ _=>trivial⟩ (fun _=>QD 0 y) (fun _=>CJ i (x*2^(min y.toNat i.bits)) (ZXF i x y)) (fun h _=>⟨h,rfl⟩) k
@[reducible] def quo(i:IntKind)(x y:Int)(k:PT os β):PT os β:=v2 ⟨.num (ZXv i x y),fun _=>True,y≠0,inferInstance,fun _ _=>trivial⟩ (fun _=>QE y 0) (fun _=>CJ i (x.tdiv y) (ZXv i x y)) (fun h _=>⟨h,rfl⟩) k
@[reducible] def rem(i:IntKind)(x y:Int)(k:PT os β):PT os β:=v2 ⟨.num (IP i x y),fun _=>True,y≠0,inferInstance,fun _ _=>trivial⟩ (fun _=>QE y 0) (fun _=>BN (x.tmod y) (IP i x y)) (fun h _=>⟨h,rfl⟩) k
structure KC (P:Program) (f:FuncId) (xs:List AV) {γ:Type} (M:Option γ) (e:γ→AV):Prop where
 k:∀l H y,M=some y→ZcF P f l xs H (fun z H'=>z=e y∧H'=H)
 x:∀r,Aq r xs=xs
 e:∀r y,ren r (e y)=e y
@[reducible] def cl{P:Program}{f:FuncId}{xs:List AV}{γ:Type}[Inhabited γ]{M:Option γ}{e:γ→AV}(K:KC P f xs M e)(k:γ→PT os β):PT os β:=
 ⟨.call (e (M.getD default)) [] (k (M.getD default)).a,fun E=>HQ P E.l E.r f xs [] (e (M.getD default))∧(k (M.getD default)).q E,M.bind fun y=>(k y).m,fun E=>∀y,(k y).n E,fun E h y hm g=>by
  obtain⟨x,a,c⟩:=bind_some hm
  have d:M.getD default=x:=by rw[a];rfl
  rw[d]
  exact⟨fun b _ _=>by rw[K.x,K.e];exact K.k _ b x a,(k x).ok E (h x) y c g⟩⟩
@[reducible] def AC(b:Bool){P:Program}{f:FuncId}{xs:List AV}{γ:Type}[Inhabited γ]{M:Option γ}{e:γ→AV}(K:KC P f xs M e)(k:γ→PT os β):PT os β:=
 ⟨.call (e (M.getD default)) [] (k (M.getD default)).a,fun E=>(b=true→HQ P E.l E.r f xs [] (e (M.getD default)))∧(k (M.getD default)).q E,if(b=true→M.isSome=true)then(k (M.getD default)).m else none,fun E=>∀y,(k y).n E,fun E j y hm h=>by
  obtain⟨d,hm⟩:=B0 hm
  refine⟨fun i c _ _=>?_,(k _).ok E (j _) y hm h⟩
  obtain⟨x,a⟩:=F6.1 (d i)
  have g:M.getD default=x:=by rw[a];rfl
  rw[K.x,K.e,g];exact K.k _ c x a⟩
theorem KC.nrm{P:Program}{f:FuncId}{xs xs':List AV}{γ:Type}{M:Option γ}{e:γ→AV}(K:KC P f xs M e)(h:∀l H Post,ZcF P f l xs H Post→ZcF P f l xs' H Post)(a:∀r,Aq r xs'=xs'):KC P f xs' M e:=⟨fun l H y hm=>h _ _ _ (K.k l H y hm),a,K.e⟩
end
section
variable {P:Program} {T:Nat→Option TI} {n:Nat} {C:Cx} {τ σ:St} {Q:Exit→St→Prop} {os:Nat} {p:List Nat} {b:Code}
def pa:List Nat→Code→Code
 |[],c=>c
 |i::p,c=>H6 [i] (pa p c)
def ZU9:Code→Bool
 |.seq _ _=>true
 |_=>false
def ZWn(i:Nat):Code→Bool
 |.block j _=>Nat.beq j i
 |_=>false
def ZV8:Code→Bool
 |.cond _ _ _=>true
 |_=>false
def ZVI:Code→Bool
 |.loop _=>true
 |_=>false
theorem sq(h:LW P n C (pa (0::p) b) τ (fun e τ'=>match e with|.normal=>LW P n C (pa (1::p) b) τ' Q|e=>Q e τ'))(hs:ZU9 (pa p b)=true:=by kernel_rfl):LW P n C (pa p b) τ Q:=by
 unfold pa at h
 generalize pa p b=c at*
 cases c with
 |seq x y=>exact ZTm h
 |_=>cases hs
def Sq(P:Program)(T:Nat→Option TI)(l n os:Nat)(r:Ren):Nat→Code→AT→St→(Exit→St→AT→Prop)→Prop
 |0,_,a,τ,K=>K .normal τ a
 |m+1,.seq x y,a,τ,K=>Db P T l n os r x a τ (fun e τ' b=>match e with|.normal=>Sq P T l n os r m y b τ' K|e=>K e τ' b)
 |_,_,_,_,_=>False
def Nl:Nat→Code→Code
 |m+1,.seq _ y=>Nl m y
 |_,c=>c
def up:Nat→List Nat→List Nat
 |0,p=>p
 |m+1,p=>up m (1::p)
def WV:Nat→Code→Bool
 |m+1,.seq _ y=>WV m y
 |0,_=>true
 |_,_=>false
theorem sT:∀(m:Nat) (p:List Nat),WV m (pa p b)=true→Nl m (pa p b)=pa (up m p) b
 |0,p,_=>by
  show Nl 0 (pa p b)=pa p b
  cases pa p b<;>rfl
 |m+1,p,h=>by
  have a:=sT m (1::p)
  have e:pa (1::p) b=H6 [1] (pa p b):=rfl
  show Nl (m+1) (pa p b)=pa (up m (1::p)) b
  generalize pa p b=c at*
  cases c with
  |seq x y=>
   have e:pa (1::p) b=y:=e
   rw[e]at a
   exact a h
  |_=>cases h
theorem Zjr(o:CxOk C)(q:Bg P T)(hm:P.follows .mixedOrders=true){γ:Ad→Nat}{QQ:Exit→St→Prop}(r:∀e σ b,QQ e b→Wk n C σ b→QQ e σ):∀(m:Nat) (c:Code) (a:AT) (τ σ:St) (K:Exit→St→AT→Prop),Sq P T C.l n C.outs (C.r γ) m c a τ K→RG (C.r γ) C.l C.outs [] τ σ→
  (∀τ' d b,K .normal τ' d→RG (C.r γ) C.l C.outs [] τ' b→BT P C.l n C.B (Nl m c) QQ b)→(∀e τ' d b,e≠.normal→K e τ' d→RG (C.r γ) C.l C.outs [] τ' b→QQ e b)→BT P C.l n C.B c QQ σ
 |0,c,a,τ,σ,K,h,f,g,_=>by
  have:=g τ a σ h f
  have e:Nl 0 c=c:=by cases c<;>rfl
  grind
 |m+1,c,a,τ,σ,K,h,f,g,p=>by
  cases c with
  |seq x y=>
   refine gG (Hz (F8 o q hm x a τ σ _ h f) fun e b hi=>?_)
   obtain⟨τ',d,i,j,k,l⟩:=hi
   cases e with
   |normal=>exact BT.weak (Zjr o q hm r m y d τ' i K j k g p) l
   |_=>exact r _ _ _ (p _ _ _ _ (by intro e;cases e) j k) l
  |_=>exact h.elim
variable {β:Type} {Post:AV→List Blk→Prop} {rs:List ResultVar} {L:β→Prop} {y:β}
theorem Ao{fx:List Nat}(co:COx C os fx)(i:Bg P T)(hm:P.follows .mixedOrders=true){c:Code}(v:PT os β)(h:v.m=some y)(f:HL L y)
  (j:∀r (g:Gd C r),v.n ⟨⟨C.l,r,fun _ _=>False,Post⟩,L,C,_,co,g,rfl⟩) (k:∀l r Q Post,Db P T l n os r c v.a τ (KF T rs os Post)=v.q ⟨l,r,Q,Post⟩:=by intro l r Q P;kernel_rfl):LW P n C c τ (FQ T rs os Post):=
 ZMt co.ok i hm co.O v.a rs (fun r Post=>v.q ⟨C.l,r,fun _ _=>False,Post⟩) (fun r Post=>k _ r _ Post) fun r a b d e=>v.ok _ (j r ⟨a,b,d,e⟩) y h f
theorem Av{fx:List Nat}(co:COx C os fx)(k:Bg P T)(hm:P.follows .mixedOrders=true){c:Code}(v:PT os β)(lf a:Lf)(j:∀τ,FQ T rs os Post .ret τ→Q .ret τ)(h:v.m=some y)(i:HL L y)
  (m:∀r (g:Gd C r),v.n ⟨⟨C.l,r,Q,Post⟩,L,C,_,co,g,rfl⟩) (o:∀l r Q Post,Db P T l n os r c v.a τ (KB T rs os fx r Post lf a Q)=v.q ⟨l,r,Q,Post⟩:=by intro l r Q P;kernel_rfl):LW P n C c τ Q:=
 ZJq co.ok k hm co.O co.F v.a lf a rs (fun r Q Post=>v.q ⟨C.l,r,Q,Post⟩) (o _) j fun r b d e f=>v.ok _ (m r ⟨b,d,e,f⟩) y h i
theorem Ak{fx:List Nat}(co:COx C os fx)(H:Bg P T)(hm:P.follows .mixedOrders=true)(m:Nat)(v:PT os β)(lf N:Lf)(G:∀τ,FQ T rs os Post .ret τ→Q .ret τ)(K:v.m=some y)(F:HL L y)
  (I:∀r (g:Gd C r),v.n ⟨⟨C.l,r,fun e τ'=>match e with|.normal=>LW P n C (pa (up m p) b) τ' Q|e=>Q e τ',Post⟩,L,C,_,co,g,rfl⟩)
  (J:∀l r Q Post,Sq P T l n os r m (pa p b) v.a τ (KB T rs os fx r Post lf N Q)=v.q ⟨l,r,Q,Post⟩:=by intro l r Q P;kernel_rfl) (hl:WV m (pa p b)=true:=by kernel_rfl):LW P n C (pa p b) τ Q:=by
 intro γ σ hg E
 have s:=v.ok _ (I (C.r γ) ⟨rfl,rfl,rfl,rfl⟩) y K F
 rw[←J]at s
 generalize v.a=a at s
 rw[←co.O,←co.F]at s
 refine Zjr co.ok H hm (QQ:=fun e σ=>Is n C (Q e) σ) (fun e σ B hi hw=>?_) m _ _ _ _ _ s E (fun τ' q B d c=>?_) (fun e τ' q B u d c=>?_)
 ·obtain⟨k,t,o,M,f,h,j⟩:=hi
  exact⟨k,t,o,M,f,h,hw.trans j⟩
 ·simp only[KB]at d
  obtain⟨R,D,O,f,h,j⟩:=Cn (n:=n) co.ok q d c
  obtain⟨k,t,o,w,x,z,A⟩:=Hx (n:=n) co.ok f hg h
  rw[sT m p hl]
  exact BT.weak (x k o w z) (j.trans A)
 ·cases e with
  |normal=>exact absurd rfl u
  |ret=>exact .of hg c (G _ ⟨.inr rfl,q,by rw[←co.O];exact d⟩)
  |exit i=>
   simp only[KB]at d
   obtain⟨R,D,O,f,h,j⟩:=Cn (n:=n) co.ok q d c
   obtain⟨k,t,o,w,x,z,A⟩:=Hx (n:=n) co.ok f hg h
   exact⟨k,t,o,w,x,z,j.trans A⟩
  |_=>exact d.elim
theorem ZVw{f:Type}{fx:List Nat}(co:COx C os fx)(k:Bg P T)(hm:P.follows .mixedOrders=true)(m:Nat)(v:PT os β)(lf d:Lf)(j:∀τ,FQ T rs os Post .ret τ→Q .ret τ)(s:v.m=some y)(i:HL L y)(c:f→St)(a:f→Option β)
  (h:∀x y,a x=some y→HL L y→LW P n C (pa (up m p) b) (c x) Q)
  (o:(∀x y,a x=some y→HL L y→LW P n C (pa (up m p) b) (c x) Q)→∀r (g:Gd C r),v.n ⟨⟨C.l,r,fun e τ'=>match e with|.normal=>LW P n C (pa (up m p) b) τ' Q|e=>Q e τ',Post⟩,L,C,_,co,g,rfl⟩)
  (q:∀l r Q Post,Sq P T l n os r m (pa p b) v.a τ (KB T rs os fx r Post lf d Q)=v.q ⟨l,r,Q,Post⟩:=by intro l r Q P;kernel_rfl) (hl:WV m (pa p b)=true:=by kernel_rfl):LW P n C (pa p b) τ Q:=
 Ak co k hm m v lf d j s i (o h) q hl
theorem bk(i:Nat)(h:LW P n C (pa (0::p) b) τ (fun e τ'=>match e with|.exit j=>(match Nat.beq j i with|true=>Q .normal τ'|false=>Q (.exit j) τ')|e=>Q e τ'))(hs:ZWn i (pa p b)=true:=by kernel_rfl):LW P n C (pa p b) τ Q:=by
 unfold pa at h
 generalize pa p b=c at*
 cases c with
 |block j x=>exact Zxt i x (by rw[show j=i from Yb hs]) h
 |_=>cases hs
theorem cd(x:Bool){f g:Option β}(hm:(if x=true then f else g)=some y)(a:f=some y→LW P n C (pa (0::p) b) τ Q)(d:g=some y→LW P n C (pa (1::p) b) τ Q)(hs:ZV8 (pa p b)=true:=by kernel_rfl)(he:ev τ.s (ZQL (pa p b))=.d (.bool x):=by kernel_rfl):LW P n C (pa p b) τ Q:=by
 unfold pa at a d
 generalize pa p b=c at*
 cases c with
 |cond o u v=>exact ZKC he (fun e=>a (by rw[Yg e]at hm;exact hm)) (fun e=>d (by rw[Yj (by rw[e];decide)]at hm;exact hm))
 |_=>cases hs
theorem lo(h:LL P n C (pa (0::p) b) τ Q)(hs:ZVI (pa p b)=true:=by kernel_rfl):LW P n C (pa p b) τ Q:=by
 unfold pa at h
 generalize pa p b=c at*
 cases c with
 |loop x=>exact ZKF h
 |_=>cases hs
theorem cS(v:PT os β){fx:List Nat}(co:COx C os fx)(e:v.m=some y)(a:HL L y)(b:∀r (g:Gd C r),v.n ⟨⟨C.l,r,fun _ _=>False,Post⟩,L,C,_,co,g,rfl⟩)(r:Ren)(d:Gd C r)
  (c:∀l r Q Post,Ol T rs os τ v.a Post=v.q ⟨l,r,Q,Post⟩:=by intro l r Q P;kernel_rfl):FQ T rs os Post .normal τ:=
 ⟨.inl rfl,v.a,by rw[c C.l r (fun _ _=>False) Post];exact v.ok _ (b r d) y e a⟩
end
section
variable {σ ξ ρ:Type}
def Am(B:σ→Option (Lv σ ξ ρ)):Nat→σ→Option (ξ ⊕ ρ)
 |0,_=>none
 |n+1,v=>match B v with
  |some (.nx a)=>Am B n a
  |some (.ex b)=>some (.inl b)
  |some (.rt y)=>some (.inr y)
  |none=>none
def Ai:Nat:=4611686018427387904
def Xp(S:σ→St)(X:ξ→Nat×St)(er:ρ→AV)(bs:ρ→List Blk)(Q:Exit→St→Prop)(Post:AV→List Blk→Prop):Lv σ ξ ρ→Prop
 |.nx v=>Q .normal (S v)
 |.ex b=>Q (.exit (X b).1) (X b).2
 |.rt y=>Post (er y) (bs y)
variable {P:Program} {T:Nat→Option TI} {n:Nat} {C:Cx} {τ:St} {Q:Exit→St→Prop} {rs:List ResultVar} {os:Nat} {c:Code} {Post:AV→List Blk→Prop}
variable {S:σ→St} {X:ξ→Nat×St} {er:ρ→AV} {bs:ρ→List Blk} {B:σ→Option (Lv σ ξ ρ)}
def KL(P:Program)(T:Nat→Option TI)(n:Nat)(C:Cx)(c:Code)(rs:List ResultVar)(os:Nat)(S:σ→St)(X:ξ→Nat×St)(er:ρ→AV)(bs:ρ→List Blk)(B:σ→Option (Lv σ ξ ρ)):Prop:=
 ∀v o,B v=some o→∀(Q:Exit→St→Prop) (Post:AV→List Blk→Prop),(∀τ,FQ T rs os Post .ret τ→Q .ret τ)→HL (Xp S X er bs Q Post) o→LW P n C c (S v) Q
theorem Zjd(g:KL P T n C c rs os S X er bs B)(f:∀τ,FQ T rs os Post .ret τ→Q .ret τ):∀(k:Nat) (v:σ) (o:ξ ⊕ ρ),Am B k v=some o→
  (∀b,o=.inl b→Q (.exit (X b).1) (X b).2)→(∀y,o=.inr y→Post (er y) (bs y))→LL P n C c (S v) Q
 |0,v,o,h,_,_=>by cases h
 |k+1,v,o,h,d,e=>by
  rw[Am]at h
  refine Zpg ?_
  cases a:B v with
  |none=>rw[a]at h;cases h
  |some w=>
   rw[a]at h
   refine g v w a _ Post (fun τ i=>f τ i) ?_
   cases w with
   |nx j=>exact Zjd g f k j o h d e
   |ex b=>cases h;exact d b rfl
   |rt y=>cases h;exact e y rfl
theorem lpB{β:Type}{k:ξ ⊕ ρ→Option β}{N:Nat}{v:σ}{y:β}(i:KL P T n C c rs os S X er bs B)(h:∀τ,FQ T rs os Post .ret τ→Q .ret τ)(hm:(Am B N v).bind k=some y)
  (f:∀b,k (.inl b)=some y→Q (.exit (X b).1) (X b).2) (g:∀z,k (.inr z)=some y→Post (er z) (bs z)):LL P n C c (S v) Q:=by
 obtain⟨o,d,a⟩:=bind_some hm
 exact Zjd i h N v o d (fun b e=>f b (e▸a)) (fun z e=>g z (e▸a))
theorem AF{g:ξ→Option ρ}{N:Nat}{v:σ}{y:ρ}(f:KL P T n C c rs os S X er bs B)(e:∀τ,FQ T rs os Post .ret τ→Q .ret τ)(hm:(Am B N v).bind (Sum.elim g some)=some y)(d:HL (fun y=>Post (er y) (bs y)) y)
  (a:∀b,g b=some y→Q (.exit (X b).1) (X b).2) (hs:S v=τ:=by kernel_rfl):LL P n C c τ Q:=
 hs▸lpB f e hm a fun z h=>by cases h;exact d
theorem Fp{d a:Type}{f:d→St}{h:a→Nat×St}{e:Exit→St→Prop}{g:ξ→Option (Lv d a ρ)}{N:Nat}{v:σ}{y:Lv d a ρ}(l:KL P T n C c rs os S X er bs B)(k:∀τ,FQ T rs os Post .ret τ→Q .ret τ)(hm:(Am B N v).bind (Sum.elim g fun z=>some (.rt z))=some y)(j:HL (Xp f h er bs e Post) y)
  (i:∀b,g b=some y→Q (.exit (X b).1) (X b).2) (hs:S v=τ:=by kernel_rfl):LL P n C c τ Q:=
 hs▸lpB l k hm i fun z m=>by cases m;exact j
end
theorem As{P:Program}{T:Nat→Option TI}{n:Nat}{f:FuncId}{fn:Func}{xs:List AV}{γ:Type}{M:Option γ}{e:γ→AV}(g:P.funcs[f]?=some fn)(i:fn.ntmps=n)(c:Bg P T)(rs:List ResultVar)
  (h:∀C:Cx,CO C 0→∀y,M=some y→∀Post:AV→List Blk→Prop,HL (fun y=>Post (e y) []) y→LW P n C (pa [] (Aw fn)) (Ab (D8 0 xs) []) (FQ T rs 0 Post))
  (b:∀r,Aq r xs=xs:=by intro r;kernel_rfl) (he:∀r y,ren r (e y)=e y:=by intro r y;kernel_rfl)
  (d:fn.body=some (Aw fn):=by kernel_rfl) (a:(fn.name== "runtime.NumGoroutine")=false:=by kernel_rfl) (j:fn.results.toList=rs:=by kernel_rfl) (hl:Nat.ble xs.length n=true:=by kernel_rfl):KC P f xs M e:=
 ⟨fun l H y hm=>Zjm rs (Aw fn) (fun _=>.top) xs g d a i j (Yh hl) c (b _) fun B=>h _ ⟨gv l B _ H,rfl,rfl,fun _ h=>absurd h (GC _)⟩ y hm (fun z _=>z=e y∧H=H) ⟨rfl,rfl⟩,b,he⟩
end Go.Eng
namespace Go.Eng
set_option linter.all false
open Go Go.RowKit
def D3:Nat→List Blk→List (Ad×Blk)
 |_,[]=>[]
 |i,b::bs=>((0,i),b)::D3 (i+1) bs
abbrev Cl:=(Ad→Prop)→Nat→Hp→(Nat→AV)→Prop
structure KO (P:Program) (f:FuncId) (os:Nat) (ys:List AV) (bi:List Blk) (Θ:Cl) {γ:Type} (M:Option γ) (e:γ→AV) (bs:γ→List Blk):Prop where
 k:∀l H (ks:List Ad) (gs:List Nat) (θ:Nat→AV),ks.length=os→IS l ks→ks.Nodup→Jl H (Ck l ks gs θ H) (D3 0 bi) 0 ks→Θ (fun k=>k∈ks) l H θ→∀y,M=some y→
  ZcF P f l (Aq (Ck l ks gs θ H) ys) H (fun z H'=>z=ren (Ck l ks gs θ H) (e y)∧H'=DO H ks (CY (Ck l ks gs θ H) 0 (bs y)))
mutual
def KV(os:Nat):AV→Bool
 |.ref k _ _ _=>Nat.beq k.1 0&&Nat.ble (k.2+1) os
 |.ptr k _ _=>Nat.beq k.1 0&&Nat.ble (k.2+1) os
 |.mp k _=>Nat.beq k.1 0&&Nat.ble (k.2+1) os
 |.fn f xs ys=>(match f with|.yield _=>false|_=>true)&&IM os xs&&IM os ys
 |.agg xs=>IM os xs
 |.tup xs=>IM os xs
 |.top=>true
 |.d _=>true
 |.e0=>true
 |.p _=>true
 |.iptr _ _=>true
 |.ifc _ _ _=>true
def IM(os:Nat):List AV→Bool
 |[]=>true
 |x::xs=>KV os x&&IM os xs
end
def M5(os:Nat)(r a:Ren):Prop:=∀q,q<os→r.κ (0,q)=a.κ (0,q)∧r.γ (0,q)=a.γ (0,q)
theorem iD{os:Nat}{r c:Ren}(hs:M5 os r c){k:Ad}(h:(Nat.beq k.1 0&&Nat.ble (k.2+1) os)=true):r.κ k=c.κ k∧r.γ k=c.γ k:=by
 simp only[Yc]at h
 obtain⟨a,b⟩:=k
 have d:=Yb h.1
 have e:=Yh h.2
 simp only at d e
 subst d
 exact hs b e
mutual
theorem iy{os:Nat}{r c:Ren}(hs:M5 os r c):∀x:AV,KV os x=true→ren r x=ren c x
 |.ref k g off n,h=>by obtain⟨a,b⟩:=iD hs h;simp only[ren,a,b]
 |.ptr k g off,h=>by obtain⟨a,b⟩:=iD hs h;simp only[ren,a,b]
 |.mp k g,h=>by obtain⟨a,b⟩:=iD hs h;simp only[ren,a,b]
 |.fn f xs ys,h=>by
  simp only[KV,Yc]at h
  have a:=Mh hs xs h.1.2
  have b:=Mh hs ys h.2
  cases f<;>first|(simp only[ren,a,b];done)|(simp at h)
 |.agg xs,h=>by simp only[KV]at h;simp only[ren,Mh hs xs h]
 |.tup xs,h=>by simp only[KV]at h;simp only[ren,Mh hs xs h]
 |.top,_=>by simp[ren]
 |.d _,_=>by simp[ren]
 |.e0,_=>by simp[ren]
 |.p _,_=>by simp[ren]
 |.iptr _ _,_=>by simp[ren]
 |.ifc _ _ _,_=>by simp[ren]
theorem Mh{os:Nat}{r a:Ren}(hs:M5 os r a):∀xs:List AV,IM os xs=true→Aq r xs=Aq a xs
 |[],_=>by simp[Aq]
 |x::xs,h=>by
  simp only[IM,Yc]at h
  simp only[Aq,iy hs x h.1,Mh hs xs h.2]
end
def Gq(os:Nat):List Blk→Prop
 |[]=>True
 |b::bs=>(Gh b.cells∨IM os b.cells=true)∧b.live=true∧Gq os bs
theorem Gq.ren{os:Nat}{r a:Ren}(hs:M5 os r a):∀(bs:List Blk) (i:Nat),i+bs.length≤os→Gq os bs→CY r i bs=CY a i bs
 |[],_,_,_=>rfl
 |b::bs,i,hl,h=>by
  simp only[DW]at hl
  have d:Aq r b.cells=Aq a b.cells:=by
   rcases h.1 with c|e
   ·rw[Hy c,Hy c]
   ·exact Mh hs _ e
  simp only[CY,Gq.ren hs bs (i+1) (by omega) h.2.2,AL,d,(hs i (by omega)).2]
theorem Gq.live{os:Nat}:∀{bs:List Blk},Gq os bs→∀b∈bs,b.live=true
 |c::bs,h,b,a=>by
  rcases YG.1 a with rfl|a
  ·exact h.2.1
  ·exact Gq.live h.2.2 b a
theorem MS:Gh []:=fun x a=>by cases a
theorem Bi{P:Program}{T:Nat→Option TI}{n:Nat}{f:FuncId}{fn:Func}{ys:List AV}{bi:List Blk}{Θ:Cl}{γ:Type}{M:Option γ}{e:γ→AV}{bs:γ→List Blk}(G:P.funcs[f]?=some fn)(I:fn.ntmps=n)(E:Bg P T)(u:List ResultVar)(os:Nat)
  (h:∀C:Cx,CO C os→Θ C.no C.l C.H0 C.θ→∀y,M=some y→∀a:AV→List Blk→Prop,HL (fun y=>a (e y) (bs y)) y→LW P n C (pa [] (Aw fn)) (Ab (D8 0 ys) (D3 0 bi)) (FQ T u os a))
  (he:∀y,KV os (e y)=true:=by intro y;kernel_rfl) (hB:∀y,Gq os (bs y):=by intro y;repeat(first|exact trivial|refine⟨.inl (A2 _ _),rfl,?_⟩|refine⟨.inl MS,rfl,?_⟩|refine⟨.inr (by kernel_rfl),rfl,?_⟩)) (hl:∀y,(bs y).length=os:=by intro y;rfl) (o:Iu os (D3 0 bi)=true:=by kernel_rfl)
  (F:fn.body=some (Aw fn):=by kernel_rfl) (c:(fn.name== "runtime.NumGoroutine")=false:=by kernel_rfl) (d:fn.results.toList=u:=by kernel_rfl) (K:Nat.ble ys.length n=true:=by kernel_rfl):KO P f os ys bi Θ M e bs:=
 ⟨fun l H ks g θ p i t B L y hy=>by
  have hN:∀r,Ij l ks g r→M5 os r (Ck l ks g θ H):=fun r d q J=>by
   obtain⟨v,w⟩:=d
   exact⟨congrFun v _,w q (by omega)⟩
  refine Znl u (Aw fn) ks g os θ ys (D3 0 bi) (e y) (bs y) (Y':=ren (Ck l ks g θ H) (e y)) (bs':=CY (Ck l ks g θ H) 0 (bs y)) G F c I d (by rw[CN];exact Yh K) E p i t o B rfl (hl y) (hB y).live
   (fun r d=>iy (hN r d) _ (he y)) (fun r d=>Gq.ren (hN r d) _ _ (by rw[hl];omega) (hB y)) (fun C x D A s m N O j=>?_) ⟨rfl,rfl⟩
  refine h C ⟨x,D,A,fun q J=>?_⟩ (by rw[j,s,m,N];exact L) y hy (fun z b=>z=e y∧b=bs y) ⟨rfl,rfl⟩
  rw[j,O]
  show(match Bw ks q with|some k=>k|none=>(0,0))∈ks
  rw[Ct,Ya (by omega)]
  exact Io _⟩
def Fm(r:Ren):List (Ad×Blk)→List Nat
 |[]=>[]
 |(k,b)::a=>(r.γ k+b.g)::Fm r a
def BE(r a:Ren):Nat→List Blk→List (Ad×Blk)→Prop
 |i,b::bs,(k,c)::cs=>(b.live=true→c.live=true∧AL r (0,i) b=AL a k c)∧r.γ (0,i)+b.g=a.γ k+c.g∧BE r a (i+1) bs cs
 |_,[],[]=>True
 |_,_,_=>False
def HG:List Ad→Bool
 |[]=>true
 |k::ks=>!(ks.any (BL k))&&HG ks
theorem OK{κ:Ad→Ad}{os:Nat}(a:∀q k:Ad,BS os q=true→BS os k=true→q≠k→κ q≠κ k):∀(ks:List Ad),HG ks=true→ks.all (BS os)=true→(ks.map κ).Nodup
 |[],_,_=>List.nodup_nil
 |k::ks,h,b=>by
  simp only[HG,Yc,YN]at h
  simp only[Ik,Yc]at b
  rw[YS,Xs]
  refine⟨fun hm=>?_,OK a ks h.2 b.2⟩
  obtain⟨q,d,e⟩:=YI.1 hm
  have c:q≠k:=fun e'=>Un h.1 (e'▸d)
  grind
section
variable {P:Program} {f:FuncId} {os os':Nat} {ys:List AV} {bi:List Blk} {Θ:Cl} {γ:Type} {M:Option γ} {e:γ→AV} {bs:γ→List Blk} {C:Cx} {r:Ren} {xs:List AV} {x:AV} {y:γ}
theorem Vz{fx:List Nat}(co:COx C os' fx)(g:Gd C r):∀q k:Ad,BS os' q=true→BS os' k=true→q≠k→r.κ q≠r.κ k:=by
 intro q k m j l he
 rw[g.κ]at he
 rcases Gf m with e|⟨e,h⟩<;>rcases Gf j with f|⟨f,i⟩
 ·obtain⟨a,b⟩:=q
  obtain⟨c,d⟩:=k
  simp only at e f
  subst e;subst f
  rw[co.ok.own,co.ok.own]at he
  grind
 ·obtain⟨a,b⟩:=q
  obtain⟨c,d⟩:=k
  simp only at e f i
  subst e;subst f
  rw[co.ok.own]at he
  have:=co.ok.out d (by rw[co.O];exact i)
  grind
 ·obtain⟨a,b⟩:=q
  obtain⟨c,d⟩:=k
  simp only at e h f
  subst e;subst f
  rw[co.ok.own]at he
  have:=co.ok.out b (by rw[co.O];exact h)
  grind
 ·obtain⟨a,b⟩:=q
  obtain⟨c,d⟩:=k
  simp only at e h f i
  subst e;subst f
  have:=co.ok.inj b d (by rw[co.O];exact h) (by rw[co.O];exact i) he
  grind
theorem MC{fx:List Nat}(co:COx C os' fx)(g:Gd C r):∀(ks:List Ad),ks.all (BS os')=true→IS (C.l+1) (ks.map r.κ)
 |[],_=>trivial
 |k::ks,h=>by
  simp only[Ik,Yc]at h
  refine⟨?_,MC co g ks h.2⟩
  rw[g.κ]
  obtain⟨a,b⟩:=k
  rcases Gf h.1 with c|⟨c,d⟩
  ·simp only at c;subst c;rw[co.ok.own];exact Yf _
  ·simp only at c d;subst c;exact QX (co.ok.out b (by rw[co.O];exact d))
theorem O1:∀(bi:List Blk) (i j:Nat),AI (D3 i bi) (0,i+j)=(bi[j]?).getD Fi
 |[],i,j=>by simp[D3,AI]
 |b::bi,i,0=>by simp[D3,AI,BL]
 |b::bi,i,j+1=>by
  have a:=O1 bi (i+1) j
  simp only[D3,AI]
  have:BL (0,i) (0,i+(j+1))=false:=by
   simp only[BL,Lh]
   right
   cases h:Nat.beq i (i+(j+1))with
   |false=>rfl
   |true=>have:=Yb h;omega
  grind
theorem Pa{g:Ren}{d:Hp}:∀(bi:List Blk) (a:List (Ad×Blk)) (i:Nat) (B:List Blk),(∀j,AI (D3 0 B) (0,i+j)=(bi[j]?).getD Fi)→BE g r i bi a→
  (∀p∈a,(d (r.κ p.1)).g=r.γ p.1+p.2.g∧(p.2.live=true→d (r.κ p.1)=AL r p.1 p.2))→Jl d g (D3 0 B) i ((a.map (·.1)).map r.κ)
 |[],[],i,B,_,_,_=>trivial
 |b::bi,(k,c)::a,i,B,hB,h,f=>by
  have e:=hB 0
  simp only[Y7,YU,EA]at e
  obtain⟨n,o,l⟩:=h
  refine⟨?_,Pa bi a (i+1) B (fun j=>?_) l fun p m=>f p (Ys _ m)⟩
  ·rw[e]
   have q:=f _ (YB ..)
   grind
  ·have:=hB (j+1)
   grind
 |[],_::_,_,_,_,h,_=>h.elim
 |_::_,[],_,_,_,h,_=>h.elim
theorem Zuy{H:Hp}{k:Ad}:updH H k (H k)=H:=by
 funext q
 by_cases h:q=k
 ·subst h;exact AO ..
 ·exact AJ _ _ h
theorem gg{g:Ren}{d:Hp}:∀(bi:List Blk) (a:List (Ad×Blk)) (i:Nat),BE g r i bi a→(∀b∈bi,b.live=true)→(∀p∈a,p.2.live=true→d (r.κ p.1)=AL r p.1 p.2)→DO d ((a.map (·.1)).map r.κ) (CY g i bi)=d
 |[],[],_,_,_,_=>rfl
 |b::bi,(k,c)::a,i,h,hl,f=>by
  obtain⟨l,q,m⟩:=h
  have e:=l (hl b (YB ..))
  have j:=f _ (YB ..) e.1
  simp only[YS,DO,CY]
  rw[e.2,←j,Zuy]
  exact gg bi a (i+1) m (fun b n=>hl b (Ys _ n)) fun p o=>f p (Ys _ o)
 |[],_::_,_,h,_,_=>h.elim
 |_::_,[],_,h,_,_=>h.elim
theorem gH{j:Ren}:∀(d:List Blk) (f a:List (Ad×Blk)) (i:Nat) (g:Hp),BE j r i d a→(∀b∈d,b.live=true)→f.map (·.1)=a.map (·.1)→DO g ((f.map (·.1)).map r.κ) (CY j i d)=Do r a g
 |[],[],[],_,_,_,_,_=>rfl
 |[],_::_,[],_,_,_,_,h=>by cases h
 |b::d,[],_::_,_,_,_,_,h=>by cases h
 |b::d,(k,c)::f,(q,o)::a,i,g,h,hl,he=>by
  obtain⟨l,p,m⟩:=h
  simp only[YS,List.cons.injEq]at he
  obtain⟨rfl,he⟩:=he
  have e:=l (hl b (YB ..))
  simp only[YS,DO,CY,Do]
  rw[e.2]
  exact gH d f a (i+1) _ m (fun b n=>hl b (Ys _ n)) he
 |_::_,_,[],_,_,h,_,_=>h.elim
 |[],_,_::_,_,_,h,_,_=>h.elim
def rC(C:Cx)(r:Ren)(a:List (Ad×Blk))(θ:Nat→AV)(H:Hp):Ren:=Ck (C.l+1) ((a.map (·.1)).map r.κ) (Fm r a) θ H
def Th(Θ:Cl)(C:Cx)(r:Ren)(b c:List (Ad×Blk))(θ:Nat→AV):Prop:=
 ∀a,(∀p∈c,(a (r.κ p.1)).g=r.γ p.1+p.2.g∧(p.2.live=true→a (r.κ p.1)=AL r p.1 p.2))→(∀k:Ad,k.1≤C.l→¬r.no k→a k=r.H0 k)→Θ (fun k=>k∈(b.map (·.1)).map r.κ) (C.l+1) a θ
theorem B6(K:KO P f os ys bi Θ M e bs)(hy:M=some y){fx:List Nat}(co:COx C os' fx)(g:Gd C r)(a k:List (Ad×Blk))(θ:Nat→AV)(F:Th Θ C r a (a++k) θ)(l:∀H,BE (rC C r a θ H) r 0 bi a)(s:bs y=bi:=by rfl)(n:bi.all Blk.live=true:=by kernel_rfl)(i:(a++k).all (fun p=>p.2.live)=true:=by kernel_rfl)(E:∀H,Aq (rC C r a θ H) ys=Aq r xs:=by intro H;kernel_rfl)(t:∀H,ren (rC C r a θ H) (e y)=ren r x:=by intro H;kernel_rfl)
  (m:((a.map (·.1)).all (BS os')&&HG (a.map (·.1))&&Nat.beq a.length os)=true:=by kernel_rfl):HQ P C.l r f xs (a++k) x:=by
 intro d u B
 have q:∀b∈bi,b.live=true:=fun b D=>Yq.1 n b D
 have o:∀p∈a++k,p.2.live=true:=fun p c=>Yq.1 i p c
 have h:∀p∈a,p∈a++k:=fun p c=>Jp _ c
 simp only[Yc]at m
 have hg:∀p∈a++k,(d (r.κ p.1)).g=r.γ p.1+p.2.g∧(p.2.live=true→d (r.κ p.1)=AL r p.1 p.2):=fun p c=>⟨by rw[u p c (o p c)];rfl,u p c⟩
 have:=K.k (C.l+1) d ((a.map (fun p:Ad×Blk=>p.1)).map r.κ) (Fm r a) θ (by rw[YC,YC];exact Yb m.2) (MC co g _ m.1.1) (OK (Vz co g) _ m.1.2 m.1.1)
  (Pa bi a 0 bi (fun j=>by have:=O1 bi 0 j;rwa [YJ]at this⊢) (l d) fun p c=>hg p (h p c)) (F d hg B) y hy
 rw[←E d]
 refine this.mono fun z v ⟨w,A⟩=>⟨w.trans (t d),A.trans ?_⟩
 rw[s]
 exact gg bi a 0 (l d) q fun p c hl=>(hg p (h p c)).2 hl
theorem Eg(K:KO P f os ys bi Θ M e bs)(hy:M=some y){fx:List Nat}(co:COx C os' fx)(g:Gd C r)(a m c:List (Ad×Blk))(θ:Nat→AV)(D:Th Θ C r a (a++m) θ)
  (n:∀H,BE (rC C r a θ H) r 0 bi a) (h:∀H,BE (rC C r a θ H) r 0 (bs y) c) (k:(bs y).all Blk.live=true:=by kernel_rfl) (B:∀H,Aq (rC C r a θ H) ys=Aq r xs:=by intro H;kernel_rfl) (s:∀H,ren (rC C r a θ H) (e y)=ren r x:=by intro H;kernel_rfl)
  (i:((a.map (·.1)).all (BS os')&&HG (a.map (·.1))&&Nat.beq a.length os)=true:=by kernel_rfl) (he:a.map (·.1)=c.map (·.1):=by rfl):HO P C.l r f xs (a++m) x c []:=by
 have o:∀b∈bs y,b.live=true:=fun b A=>Yq.1 k b A
 have l:∀p∈a,p∈a++m:=fun p q=>Jp _ q
 refine Zzf rfl rfl fun d hg w=>?_
 simp only[Yc]at i
 have:=K.k (C.l+1) d ((a.map (fun p:Ad×Blk=>p.1)).map r.κ) (Fm r a) θ (by rw[YC,YC];exact Yb i.2) (MC co g _ i.1.1) (OK (Vz co g) _ i.1.2 i.1.1)
  (Pa bi a 0 bi (fun j=>by have:=O1 bi 0 j;rwa [YJ]at this⊢) (n d) fun p q=>hg p (l p q)) (D d hg w) y hy
 rw[←B d]
 exact this.mono fun z t ⟨u,v⟩=>⟨u.trans (s d),v.trans (gH (bs y) a c 0 d (h d) o he)⟩
end
structure CloM (P:Program) (C:Cx) (i:Nat) (xs:List AV) {γ:Type} (M:Option γ) (e:γ→AV):Prop where
 k:∀y,M=some y→CS P C.l C.no C.H0 (C.θ i) xs (e y)
 x:∀r,Aq r xs=xs
 e:∀r y,ren r (e y)=e y
section
variable {os:Nat} {β γ:Type} [Inhabited γ]
theorem CloM.callF{P:Program}{i:Nat}{xs:List AV}{M:Option γ}{e:γ→AV}(E:Ev os β)(h:CloM P E.C i xs M e){y:γ}(hy:M=some y):Px P E.E.l E.E.r i xs [] (e y):=
 ZCa (congrFun E.g.θ i) (by rw[E.hl,E.g.no,E.g.H];exact h.k y hy) (h.x _) (h.e _ _)
@[reducible] def cf(P:Program)(i:Nat)(xs:List AV)(M:Option γ)(e:γ→AV)(k:γ→PT os β):PT os β:=
 ⟨.call (e (M.getD default)) [] (k (M.getD default)).a,fun E=>Px P E.l E.r i xs [] (e (M.getD default))∧(k (M.getD default)).q E,M.bind fun y=>(k y).m,fun E=>CloM P E.C i xs M e∧∀y,(k y).n E,fun E b y hm f=>by
  obtain⟨x,a,c⟩:=bind_some hm
  have d:M.getD default=x:=by rw[a];rfl
  rw[d]
  exact⟨b.1.callF E a,(k x).ok E (b.2 x) y c f⟩⟩
@[reducible] def cs(P:Program)(f:FuncId)(xs:List AV)(ks:List Ad)(b:List (Ad×Blk))(M:Option γ)(e:γ→AV)(k:γ→PT os β):PT os β:=
 ⟨.call (e (M.getD default)) ks (k (M.getD default)).a,fun E=>HQ P E.l E.r f xs b (e (M.getD default))∧(k (M.getD default)).q E,M.bind fun y=>(k y).m,fun E=>(∀y,M=some y→HQ P E.C.l E.E.r f xs b (e y))∧∀y,(k y).n E,fun E c y hm h=>by
  obtain⟨x,a,d⟩:=bind_some hm
  have g:M.getD default=x:=by rw[a];rfl
  rw[g]
  exact⟨by rw[E.hl];exact c.1 x a,(k x).ok E (c.2 x) y d h⟩⟩
@[reducible] def ER(b:Bool)(P:Program)(f:FuncId)(xs:List AV)(ks:List Ad)(a:List (Ad×Blk))(M:Option γ)(e:γ→AV)(k:γ→PT os β):PT os β:=
 ⟨.call (e (M.getD default)) ks (k (M.getD default)).a,fun E=>(b=true→HQ P E.l E.r f xs a (e (M.getD default)))∧(k (M.getD default)).q E,if(b=true→M.isSome=true)then(k (M.getD default)).m else none,fun E=>(∀y,M=some y→HQ P E.C.l E.E.r f xs a (e y))∧∀y,(k y).n E,fun E d y hm i=>by
  obtain⟨g,hm⟩:=B0 hm
  refine⟨fun a=>?_,(k _).ok E (d.2 _) y hm i⟩
  obtain⟨x,c⟩:=F6.1 (g a)
  have h:M.getD default=x:=by rw[c];rfl
  rw[h,E.hl];exact d.1 x c⟩
@[reducible] def mv{α:Type}[Rw α](d q:Nat)(xs:List α)(k:PT os β)(a:Nat.ble (q+1) os=true:=by kernel_rfl):PT os β:=
 ⟨.mv d q k.a,fun E=>Ge (Af Rw.e xs)∧(q<os∧E.r.no (E.r.κ (0,q)))∧k.q E,k.m,k.n,fun E c y hm b=>
  ⟨ZiT _ _,⟨Yh a,by rw[E.g.no,E.g.κ];exact E.co.W q (Yh a)⟩,k.ok E c y hm b⟩⟩
@[reducible] def mvc{α:Type}[Rw α](d q e i:Nat)(xs:List α)(k:PT os β)(a:Nat.ble (q+1) os=true:=by kernel_rfl):PT os β:=
 ⟨.mvc d q e i k.a,fun E=>Ge (Af Rw.e xs)∧(q<os∧E.r.no (E.r.κ (0,q)))∧k.q E,k.m,k.n,fun E c y hm b=>
  ⟨ZiT _ _,⟨Yh a,by rw[E.g.no,E.g.κ];exact E.co.W q (Yh a)⟩,k.ok E c y hm b⟩⟩
end
section
variable {P:Program} {os os':Nat} {ys:List AV} {bi:List Blk} {Θ:Cl} {γ:Type} {M:Option γ} {e:γ→AV} {bs:γ→List Blk} {C:Cx} {r:Ren} {y:γ}
theorem D1{f:FuncId}(K:KO P f os ys bi Θ M e bs)(hy:M=some y){fx:List Nat}(co:COx C os' fx)(g:Gd C r)(c i:List (Ad×Blk)){w:List (Ad×Blk)}{v:Hp}(hg:∀p∈w,(v (r.κ p.1)).g=r.γ p.1+p.2.g∧(p.2.live=true→v (r.κ p.1)=AL r p.1 p.2))(u:∀p∈c,p∈w)
  {G d:List AV} (θ:Nat→AV) (O:∀l' a,Θ (fun k=>k∈(c.map (·.1)).map r.κ) l' a θ) (o:∀l H,BE (Ck l ((c.map (·.1)).map r.κ) (Fm r c) θ H) r 0 bi c) (B:bs y=bi:=by rfl) (t:bi.all Blk.live=true:=by kernel_rfl)
  (N:∀l H,Aq (Ck l ((c.map (·.1)).map r.κ) (Fm r c) θ H) ys=G++d:=by intro l H;kernel_rfl) (D:∀l H,ren (Ck l ((c.map (·.1)).map r.κ) (Fm r c) θ H) (e y)=e y:=by intro l H;kernel_rfl)
  (F:(((c++i).map (·.1)).all (BS os')&&HG ((c++i).map (·.1))&&Nat.beq c.length os)=true:=by kernel_rfl):CS P (C.l+1) (fun k=>k∈(i.map (·.1)).map r.κ) v (.fn (.func f) [] d) G (e y):=by
 have A:∀b∈bi,b.live=true:=fun b w=>Yq.1 t b w
 refine⟨f,[],d,rfl,fun l' a hl L=>?_⟩
 simp only[Yc,EX,List.all_append]at F
 obtain⟨⟨⟨E,R⟩,S⟩,T⟩:=F
 have m:=OK (Vz co g) _ S (by rw[List.all_append,E,R];rfl)
 rw[EX,List.nodup_append]at m
 have x:∀p∈c,a (r.κ p.1)=v (r.κ p.1):=fun p n=>by
  have hm:r.κ p.1∈(c.map (·.1)).map r.κ:=NA (NA n)
  exact L _ (Ub (MC co g _ E) _ hm) fun h=>m.2.2 _ hm _ h rfl
 have q:∀p∈c,(a (r.κ p.1)).g=r.γ p.1+p.2.g∧(p.2.live=true→a (r.κ p.1)=AL r p.1 p.2):=fun p n=>by rw[x p n];exact hg p (u p n)
 have s:IS l' ((c.map (·.1)).map r.κ):=by
  have:=MC co g (c.map (·.1)) E
  generalize (c.map (·.1)).map r.κ=ks at this
  induction ks with
  |nil=>trivial
  |cons k ks Q=>exact⟨DI this.1 hl,Q this.2⟩
 have:=K.k l' a ((c.map (fun p:Ad×Blk=>p.1)).map r.κ) (Fm r c) θ (by rw[YC,YC];exact Yb T) s m.1
  (Pa bi c 0 bi (fun j=>by have:=O1 bi 0 j;rwa [YJ]at this⊢) (o l' a) q) (O l' a) y hy
 rw[Ip,←N l' a]
 refine this.mono fun z U ⟨I,J⟩=>⟨I.trans (D l' a),J.trans ?_⟩
 rw[B]
 exact gg bi c 0 (o l' a) A fun p n hl=>(q p n).2 hl
end
theorem ME{C:Cx}{r:Ren}{os':Nat}{P:Program}{i:Nat}{xs:List AV}{y:AV}{fx:List Nat}(co:COx C os' fx)(g:Gd C r)(m:List (Ad×Blk)){l:Hp}(p:∀k:Ad,k.1≤C.l→¬r.no k→l k=r.H0 k)(h:CS P C.l C.no C.H0 (C.θ i) xs y)
  (o:((m.map (·.1)).all (BS os'))=true:=by kernel_rfl):CS P (C.l+1) (fun k=>k∈(m.map (·.1)).map r.κ) l (r.θ i) xs y:=by
 rw[g.θ]
 refine ZHN h (Nat.le_succ _) (fun q f d hm=>?_) fun q f d=>?_
 ·obtain⟨k,j,e⟩:=YI.1 hm
  rw[g.κ]at e
  obtain⟨a,b⟩:=k
  rcases Gf (Yq.1 o _ j)with c|⟨c,n⟩
  ·simp only at c;subst c;rw[co.ok.own]at e;rw[←e]at f;simp only at f;omega
  ·simp only at c n;subst c;rw[←e]at d;exact d (co.W b n)
 ·rw[←g.H];exact p q f (by rw[g.no];exact d)
theorem BA{r b:Ren}{k k':Ad}{g a:Nat}{e:EK}{sz:Nat}{cs:List AV}(h:Gh cs)(hg:r.γ k+g=b.γ k'+a):AL r k ⟨g,true,e,sz,cs⟩=AL b k' ⟨a,true,e,sz,cs⟩:=by
 simp only[AL,Hy h,hg]
section
variable {P:Program} {T:Nat→Option TI} {n:Nat} {C:Cx} {τ:St} {Q:Exit→St→Prop} {os k:Nat} {c:Code} {β:Type} {L:β→Prop} {y:β}
theorem BJ{fx:List Nat}(co:COx C os fx)(o:Bg P T)(m:Nat)(v:PT os β)(lf:Lf)(s:v.m=some y)(j:HL L y)(p:∀r (g:Gd C r),v.n ⟨⟨C.l,r,fun _ τ'=>LO P n C c (k+m) τ' Q,fun _ _=>False⟩,L,C,_,co,g,rfl⟩)
  (q:∀l r Q b,Bu r os v.a τ (fun τ a=>GX P T l n r ((Cu c).toList.map (·.dst)) (I6 m (I3 k (Cu c).toList)) [] a (fun τ' env d=>Bu r os d (El env τ') (fun τ _=>FL fx lf τ (Q .normal))) τ)=v.q ⟨l,r,Q,b⟩:=by intro l r Q P;kernel_rfl):LO P n C c k τ Q:=
 ZP3 co.ok o co.O co.F m v.a lf (fun r Φ=>v.q ⟨C.l,r,fun _=>Φ,fun _ _=>False⟩) (fun r Φ=>q _ r (fun _=>Φ) _) fun r e f h i=>v.ok _ (p r ⟨e,f,h,i⟩) y s j
theorem Bf{fx:List Nat}(co:COx C os fx)(m:Bg P T)(v:PT os β)(lf:Lf)(q:v.m=some y)(j:HL L y)(o:∀r (g:Gd C r),v.n ⟨⟨C.l,r,Q,fun _ _=>False⟩,L,C,_,co,g,rfl⟩)
  (p:∀l r Q b,Bu r os v.a τ (fun τ a=>GX P T l n r ((Cu c).toList.map (·.dst)) (I3 k (Cu c).toList) [] a (fun τ' env d=>Bu r os d (El env τ') (fun τ _=>FL fx lf τ (Q .normal))) τ)=v.q ⟨l,r,Q,b⟩:=by intro l r Q P;kernel_rfl):LO P n C c k τ Q:=
 ZO1 co.ok m co.O co.F v.a lf (fun r Q=>v.q ⟨C.l,r,Q,fun _ _=>False⟩) (fun r Q=>p _ r Q _) fun r e f h i=>v.ok _ (o r ⟨e,f,h,i⟩) y q j
theorem HK{γ:Type}{M:Option γ}{kk:γ→Option β}{ss:List (Nat×AV)}{hs:List (Ad×Blk)}{fx:List Nat}(co:COx C os fx)(hm:M.bind kk=some y)(f:FuncId)(xs:List AV)(ks:List Ad)(b:List (Ad×Blk))(e:γ→AV)(Ax:γ→List (Ad×Blk))(fl:List Ad)
  (l:∀z,Fs C (Ax z)) (d:Jc (AI hs) fl) (a:∀z,M=some z→∀r,Gd C r→HO P C.l r f xs b (e z) (Ax z) [])
  (h:∀z,kk z=some y→LO P n C c (k+1) (Ab (GR (FK c k) (e z) (Ei [] ss)) (Ax z++Da ((Ax z).map (·.1)) [] fl hs)) Q)
  (j:GJ c k=some (FK c k,callF c k,GM c k):=by kernel_rfl) (v:ev (AN ss) (callF c k)=.fn (.func f) [] []:=by kernel_rfl) (m:[]++(GM c k).map (ev (AN ss))++[]=xs:=by kernel_rfl) (g:(ks.map fun k=>(k,AI hs k))=b:=by kernel_rfl)
  (i:∀z,(DJ os (Ax z)&&Lz [] (Ax z)&&My [] fx&&HI hs&&Nb n (FK c k)&&ks.all (BS os))=true:=by intro z;kernel_rfl):LO P n C c k (Ab ss hs) Q:=by
 obtain⟨z,o,p⟩:=bind_some hm
 exact Zn2 co.ok co.O co.F f [] [] xs j v m ks b g (e z) (Ax z) [] fl (i z) (l z) d (fun r q s t u=>a z o r ⟨q,s,t,u⟩) (h z p)
theorem c6{γ:Type}{M:Option γ}{kk:γ→Option β}{ss:List (Nat×AV)}{hs:List (Ad×Blk)}{f:FuncId}{os':Nat}{ys:List AV}{bi:List Blk}{Θ:Cl}{e0:γ→AV}{bs:γ→List Blk}{fx:List Nat}(co:COx C os fx)(hm:M.bind kk=some y)(K:KO P f os' ys bi Θ M e0 bs)
  (a b:List (Ad×Blk)) (e:γ→AV) (Ax:γ→List (Ad×Blk)) (fl:List Ad)
  (h:∀z,kk z=some y→LO P n C c (k+1) (Ab (GR (FK c k) (e z) (Ei [] ss)) (Ax z++Da ((Ax z).map (·.1)) [] fl hs)) Q)
  (θ:Ren→Nat→AV:=fun _=>AN []) (A:∀r,Gd C r→Th Θ C r a (a++b) (θ r):=by intro r g;exact fun _ _ _=>trivial) (xs:List AV:=[]++(GM c k).map (ev (AN ss))++[])
  (q:∀z,Fs C (Ax z):=by intro z;repeat(first|exact trivial|refine⟨COx.W ‹_› _ (by decide),?_⟩))
  (j:Jc (AI hs) fl:=by repeat(first|exact trivial|refine⟨A2 _ _,?_⟩))
  (i:∀r H,BE (rC C r a (θ r) H) r 0 bi a:=by
   intro r H
   repeat(first|exact trivial|refine⟨fun _=>⟨rfl,BA (A2 _ _) (by kernel_rfl)⟩,by kernel_rfl,?_⟩|refine⟨fun _=>⟨rfl,BA MS (by kernel_rfl)⟩,by kernel_rfl,?_⟩|refine⟨fun _=>⟨rfl,by kernel_rfl⟩,by kernel_rfl,?_⟩|refine⟨(fun h=>nomatch h),by kernel_rfl,?_⟩))
  (d:∀z r H,BE (rC C r a (θ r) H) r 0 (bs z) (Ax z):=by
   intro z r H
   repeat(first|exact trivial|refine⟨fun _=>⟨rfl,BA (A2 _ _) (by kernel_rfl)⟩,by kernel_rfl,?_⟩|refine⟨fun _=>⟨rfl,BA MS (by kernel_rfl)⟩,by kernel_rfl,?_⟩|refine⟨fun _=>⟨rfl,by kernel_rfl⟩,by kernel_rfl,?_⟩))
  (w:∀r H,Aq (rC C r a (θ r) H) ys=Aq r xs:=by intro r H;kernel_rfl) (s:[]++(GM c k).map (ev (AN ss))++[]=xs:=by kernel_rfl) (t:∀z r H,ren (rC C r a (θ r) H) (e0 z)=ren r (e z):=by intro z r H;kernel_rfl)
  (p:GJ c k=some (FK c k,callF c k,GM c k):=by kernel_rfl) (u:ev (AN ss) (callF c k)=.fn (.func f) [] []:=by kernel_rfl)
  (l:(((a++b).map (·.1)).map fun k=>(k,AI hs k))=a++b:=by kernel_rfl) (m:∀z,(bs z).all Blk.live=true:=by intro z;kernel_rfl) (he:∀z,a.map (·.1)=(Ax z).map (·.1):=by intro z;rfl)
  (v:((a.map (·.1)).all (BS os)&&HG (a.map (·.1))&&Nat.beq a.length os')=true:=by kernel_rfl)
  (o:∀z,(DJ os (Ax z)&&Lz [] (Ax z)&&My [] fx&&HI hs&&Nb n (FK c k)&&((a++b).map (·.1)).all (BS os))=true:=by intro z;kernel_rfl):LO P n C c k (Ab ss hs) Q:=
 HK co hm f xs _ (a++b) e Ax fl q j (fun z x r g=>Eg K x co g a b (Ax z) (θ r) (A r g) (fun H=>i r H) (fun H=>d z r H) (m z) (fun H=>w r H) (fun H=>t z r H) v (he z)) h p u s l o
theorem Fh{fx:List Nat}(co:COx C os fx)(v:PT os β)(lf:Lf)(k:v.m=some y)(h:HL L y)(i:∀r (g:Gd C r),v.n ⟨⟨C.l,r,fun _ τ'=>LW P n C c τ' Q,fun _ _=>False⟩,L,C,_,co,g,rfl⟩)
  (j:∀l r Q a,Bu r os v.a τ (fun τ _=>FL fx lf τ (Q .normal))=v.q ⟨l,r,Q,a⟩:=by intro l r Q P;kernel_rfl):LW P n C c τ Q:=
 ZIv co.ok co.O co.F v.a lf (fun r Φ=>v.q ⟨C.l,r,fun _=>Φ,fun _ _=>False⟩) (fun r Φ=>j _ r (fun _=>Φ) _) fun r b d e f=>v.ok _ (i r ⟨b,d,e,f⟩) y k h
theorem rg{c:Code}(h:LO P n C c 0 τ Q)(hs:zf c=true:=by kernel_rfl):LW P n C c τ Q:=Zq2 hs h
end
end Go.Eng
