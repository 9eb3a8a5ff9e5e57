import Derived.Test.YthgmbpciandpiaaGreatNx09
import Derived.Test.YthgmbpciandpiaaGreatNx00
namespace Go.Eng
set_option linter.all false
open Go Go.RowKit
abbrev vL{α:Type}(e:α→List D)(xs:List α):AV:=.d (.list (xs.map e))
abbrev vS(s:ByteArray):AV:=.d (.str s)
abbrev vI(x:Int):AV:=.d (.int .i64 x)
abbrev vN(x:Nat):AV:=.d (.int .i64 (x:Int))
abbrev vB(x:Bool):AV:=.d (.bool x)
abbrev nl:Lf:=⟨[],[],[],[]⟩
abbrev pp(n:Nat):Nat×AV:=(n,.ptr (1,n) 0 0)
abbrev kk(d:Nat)(e:EK)(sz:Nat)(c:List AV):Ad×Blk:=((1,d),⟨0,true,e,sz,c⟩)
abbrev nG{α β:Type}:α→List β:=fun _=>[]
theorem nH{α:Type}{p:α→Prop}:∀x,p x→p x:=fun _ h=>h
abbrev cD(l:List D):List AV:=l.map .d
abbrev AH(ls:List Nat):Lf:=⟨ls,[],[],[]⟩
abbrev Ae(ls:List Nat)(ks:List (Ad×Bool)):Lf:=⟨ls,ks,[],[]⟩
class Rw (α:Type) where
 e:α→List D
 f:α→List D
 z:α
 s:Nat
 len:∀x,(e x).length=s
 ef:∀x,e x=f x
 s0:s≠0
instance:Rw ByteArray:=⟨AW,AW,⟨#[]⟩,1,fun _=>rfl,fun _=>rfl,by decide⟩
instance:Rw Bool:=⟨AX,AX,false,1,fun _=>rfl,fun _=>rfl,by decide⟩
instance:Rw Raw:=⟨A0,A0,ZYL,4,fun _=>rfl,fun _=>rfl,by decide⟩
instance:Rw Val:=⟨AM,Ag,L1,7,fun _=>by rw[Gk];rfl,Gk,by decide⟩
instance:Rw Pr:=⟨Ay,Dp,zPr,14,fun _=>by rw[KT];rfl,KT,by decide⟩
instance:Rw Slt:=⟨Am,BW,ZZc,8,fun _=>by rw[H2];rfl,H2,by decide⟩
instance:Rw Nt:=⟨BS,BS,zNt,8,fun _=>rfl,fun _=>rfl,by decide⟩
instance:Rw Fld:=⟨Ao,Ao,ZY5,16,fun _=>rfl,fun _=>rfl,by decide⟩
instance:Rw Spn:=⟨Cv,Cv,ZZL,2,fun _=>rfl,fun _=>rfl,by decide⟩
instance:Rw Msg:=⟨AE,AE,ZYU,5,fun _=>rfl,fun _=>rfl,by decide⟩
instance:Rw Itm:=⟨Cr,Cr,ZZf,3,fun _=>rfl,fun _=>rfl,by decide⟩
instance:Rw Enm:=⟨Bw,Bw,ZZd,5,fun _=>rfl,fun _=>rfl,by decide⟩
instance:Rw Mth:=⟨G4,G4,ZYW,5,fun _=>rfl,fun _=>rfl,by decide⟩
instance:Rw Svc:=⟨CV,CV,ZZu,3,fun _=>rfl,fun _=>rfl,by decide⟩
instance:Rw Prb:=⟨AA,AA,ZZb,3,fun _=>rfl,fun _=>rfl,by decide⟩
inductive Lv (σ ξ ρ:Type) where
 |nx (v:σ)
 |ex (b:ξ)
 |rt (y:ρ)
structure En where
 l:Nat
 r:Ren
 Q:Exit→St→Prop
 P:AV→List Blk→Prop
structure Gd (C:Cx) (r:Ren):Prop where
 θ:r.θ=C.θ
 H:r.H0=C.H0
 κ:r.κ=C.κ
 no:r.no=C.no
structure COx (C:Cx) (os:Nat) (fx:List Nat):Prop where
 ok:CxOk C
 O:C.outs=os
 F:C.fx=fx
 W:∀q,q<os→C.no (C.κ (0,q))
abbrev CO(C:Cx)(os:Nat):Prop:=COx C os (I7 os)
def HL{β:Type}(L:β→Prop)(y:β):Prop:=L y
structure Ev (os:Nat) (β:Type) where
 E:En
 L:β→Prop
 C:Cx
 fx:List Nat
 co:COx C os fx
 g:Gd C E.r
 hl:E.l=C.l
structure PT (os:Nat) (β:Type) where
 a:AT
 q:En→Prop
 m:Option β
 n:Ev os β→Prop
 ok:∀E:Ev os β,n E→∀y,m=some y→HL E.L y→q E.E
section
variable {os:Nat} {β:Type}
structure Sp where
 w:AT→AT
 p:En→Prop
 c:Prop
 d:Decidable c
 ok:c→∀E,p E
structure Sz where
 w:AT→AT
 p:En→Prop
 ok:∀E,p E
theorem BU{c:Prop}[d:Decidable c]{m:Option β}{y:β}(h:(if c then m else none)=some y):c∧m=some y:=by
 grind
theorem bind_some{γ:Type}{m:Option γ}{k:γ→Option β}{y:β}(h:m.bind k=some y):∃x,m=some x∧k x=some y:=by
 cases m with
 |none=>cases h
 |some x=>exact⟨x,rfl,h⟩
@[reducible] def vs(s:Sp)(k:PT os β):PT os β:=⟨s.w k.a,fun E=>s.p E∧k.q E,@ite _ s.c s.d k.m none,k.n,fun E d y hm c=>by
 obtain⟨a,b⟩:=@BU _ _ s.d _ _ hm
 exact⟨s.ok a E.E,k.ok E d y b c⟩⟩
@[reducible] def vg(b:Bool)(s:Sp)(k:PT os β):PT os β:=⟨s.w k.a,fun E=>(b=true→s.p E)∧k.q E,@ite _ (b=true→s.c) (@instDecidableForall _ _ _ s.d) k.m none,k.n,fun E f y hm d=>by
 obtain⟨a,c⟩:=@BU _ _ (@instDecidableForall _ _ _ s.d) _ _ hm
 exact⟨fun e=>s.ok (a e) E.E,k.ok E f y c d⟩⟩
@[reducible] def vz(s:Sz)(k:PT os β):PT os β:=⟨s.w k.a,fun E=>s.p E∧k.q E,k.m,k.n,fun E b y hm a=>⟨s.ok E.E,k.ok E b y hm a⟩⟩
@[reducible] def vy(b:Bool)(s:Sz)(k:PT os β):PT os β:=⟨s.w k.a,fun E=>(b=true→s.p E)∧k.q E,k.m,k.n,fun E c y hm a=>⟨fun _=>s.ok E.E,k.ok E c y hm a⟩⟩
@[reducible] def v2(s:Sp)(b c:En→Prop)(h:s.c→∀E,b E∧c E)(k:PT os β):PT os β:=⟨s.w k.a,fun E=>b E∧c E∧k.q E,@ite _ s.c s.d k.m none,k.n,fun E f y hm e=>by
 obtain⟨a,d⟩:=@BU _ _ s.d _ _ hm
 exact⟨(h a E.E).1,(h a E.E).2,k.ok E f y d e⟩⟩
@[reducible] def vw(w:AT→AT)(k:PT os β):PT os β:=⟨w k.a,k.q,k.m,k.n,k.ok⟩
@[reducible] def wg(k:PT os β):PT os β:=⟨.go k.a,k.q,k.m,k.n,k.ok⟩
@[reducible] def br(b:Bool)(t f:PT os β):PT os β:=⟨.br t.a f.a,fun E=>(b=true→t.q E)∧(b=false→f.q E),if b=true then t.m else f.m,fun E=>t.n E∧f.n E,fun E c y hm a=>
 ⟨fun e=>t.ok E c.1 y (by rw[Yg e]at hm;exact hm) a,fun e=>f.ok E c.2 y (by rw[Yf (by rw[e];decide)]at hm;exact hm) a⟩⟩
@[reducible] def bT(b:Bool)(t:PT os β):PT os β:=⟨.one true t.a,fun E=>(b=true→t.q E)∧(b=false→False),if b=true then t.m else none,t.n,fun E c y hm a=>by
 obtain⟨h,hm⟩:=BU hm
 exact⟨fun _=>t.ok E c y hm a,fun e=>absurd (h.symm.trans e) (by decide)⟩⟩
@[reducible] def bF(b:Bool)(f:PT os β):PT os β:=⟨.one false f.a,fun E=>(b=true→False)∧(b=false→f.q E),if b=false then f.m else none,f.n,fun E c y hm a=>by
 obtain⟨h,hm⟩:=BU hm
 exact⟨fun e=>absurd (e.symm.trans h) (by decide),fun _=>f.ok E c y hm a⟩⟩
@[reducible] def al{α:Type}(e:α→List D)(xs:List α)(neg:Bool)(k:Bool→PT os β):PT os β:=⟨(k neg).a,fun E=>∀b:Bool,(xs.map e≠[]→b=neg)→(k b).q E,(k neg).m,
 fun E=>(∀b,(k b).n E)∧∀b,xs=[]→(k b).m=(k neg).m,fun E a y hm c b f=>by
  by_cases h:xs=[]
  ·exact(k b).ok E (a.1 b) y ((a.2 b h).trans hm) c
  ·have:b=neg:=f (by intro d;exact h (Zt.1 d))
   subst this
   exact(k b).ok E (a.1 b) y hm c⟩
@[reducible] def dd:PT os β:=⟨.nil,fun _=>False,none,fun _=>True,fun _ _ _ h _=>by cases h⟩
@[reducible] def lf(p:En→Prop)(y:β):PT os β:=⟨.nil,p,some y,fun E=>HL E.L y→p E.E,fun E b z hm a=>b (by cases hm;exact a)⟩
@[reducible] def lc(s:St)(m:Option β):PT os β:=⟨.nil,fun E=>E.Q .normal s,m,fun E=>∀y,m=some y→HL E.L y→E.E.Q .normal s,fun E b y hm a=>b y hm a⟩
@[reducible] def Ex(c:Prop)[Decidable c](p:En→Prop)(y:β):PT os β:=⟨.nil,p,if c then some y else none,fun E=>c→HL E.L y→p E.E,fun E d z hm b=>by
 obtain⟨a,hm⟩:=BU hm
 cases hm
 exact d a b⟩
@[reducible] def lr(er:β→AV)(bs:β→List Blk)(y:β):PT os β:=lf (fun E=>E.P (er y) (bs y)) y
section
variable {σ ξ ρ:Type}
@[reducible] def Ar(er:ρ→AV)(bs:ρ→List Blk)(y:ρ):PT os (Lv σ ξ ρ):=lf (fun E=>E.P (er y) (bs y)) (.rt y)
@[reducible] def ln(S:σ→St)(v:σ):PT os (Lv σ ξ ρ):=lf (fun E=>E.Q .normal (S v)) (.nx v)
@[reducible] def Ai(X:ξ→Nat×St)(b:ξ):PT os (Lv σ ξ ρ):=lf (fun E=>E.Q (.exit (X b).1) (X b).2) (.ex b)
end
section
variable {α:Type} [Rw α]
@[reducible] def ix(xs:List α)(i:Nat)(k:α→PT os β):PT os β:=
 ⟨.ds (Rw.f (xs.getD i Rw.z)) (k (xs.getD i Rw.z)).a,fun E=>IY (xs.map Rw.e) ((i:Nat):Int) (Rw.f (xs.getD i Rw.z))∧(k (xs.getD i Rw.z)).q E,xs[i]?.bind fun x=>(k x).m,fun E=>∀x,(k x).n E,fun E d y hm c=>by
  obtain⟨x,a,b⟩:=bind_some hm
  have e:xs.getD i Rw.z=x:=by rw[Yp,a];rfl
  rw[e]
  exact⟨Zye a Rw.ef,(k x).ok E (d x) y b c⟩⟩
@[reducible] def B8(xs:List α)(i:Int)(k:α→PT os β):PT os β:=
 ⟨.ds (Rw.f (xs.getD i.toNat Rw.z)) (k (xs.getD i.toNat Rw.z)).a,fun E=>IY (xs.map Rw.e) i (Rw.f (xs.getD i.toNat Rw.z))∧(k (xs.getD i.toNat Rw.z)).q E,if 0≤i then xs[i.toNat]?.bind fun x=>(k x).m else none,fun E=>∀x,(k x).n E,fun E g y hm d=>by
  obtain⟨b,hm⟩:=BU hm
  obtain⟨x,a,c⟩:=bind_some hm
  have e:xs.getD i.toNat Rw.z=x:=by rw[Yp,a];rfl
  have f:=(Yb.1 a).1
  exact⟨Zqf b (by omega) Rw.ef,by rw[e];exact(k x).ok E (g x) y c d⟩⟩
@[reducible] def AZ(b:Bool)(xs:List α)(i:Int)(k:α→PT os β):PT os β:=
 ⟨.ds (Rw.f (xs.getD i.toNat Rw.z)) (k (xs.getD i.toNat Rw.z)).a,fun E=>(b=true→IY (xs.map Rw.e) i (Rw.f (xs.getD i.toNat Rw.z)))∧(k (xs.getD i.toNat Rw.z)).q E,if(b=true→0≤i∧i<xs.length)then(k (xs.getD i.toNat Rw.z)).m else none,fun E=>∀x,(k x).n E,fun E d y hm c=>by
  obtain⟨a,hm⟩:=BU hm
  exact⟨fun e=>Zqf (a e).1 (a e).2 Rw.ef,(k _).ok E (d _) y hm c⟩⟩
@[reducible] def ca(xs:List α)(j:Nat)(k:α→PT os β):PT os β:=
 ⟨.cs ((Rw.f (xs.getD j Rw.z)).map .d) (k (xs.getD j Rw.z)).a,fun E=>Ek (Af Rw.e xs) (j*Rw.s α) ((Rw.f (xs.getD j Rw.z)).map .d)∧(k (xs.getD j Rw.z)).q E,xs[j]?.bind fun x=>(k x).m,fun E=>∀x,(k x).n E,fun E d y hm c=>by
  obtain⟨x,a,b⟩:=bind_some hm
  have e:xs.getD j Rw.z=x:=by rw[Yp,a];rfl
  rw[e]
  exact⟨ZqU a Rw.len Rw.ef,(k x).ok E (d x) y b c⟩⟩
theorem ZWB{xs:List α}{j o m:Nat}(a:Nat.ble (o+m) (Rw.s α)=true)(h:j<xs.length):Ek (Af Rw.e xs) (j*Rw.s α+o) ((((Rw.f (xs.getD j Rw.z)).map AV.d).drop o).take m):=by
 have hl:((Rw.f (xs.getD j Rw.z)).map AV.d).length=Rw.s α:=by rw[YE,←Rw.ef,Rw.len]
 have a:=Yi a
 exact Zmj h Rw.len Rw.ef (by rw[Yu,YU,hl,ID (by omega)]) (by rw[Yu,YU,hl];omega)
@[reducible] def cp(xs:List α)(j o m:Nat)(k:α→PT os β)(f:Nat.ble (o+m) (Rw.s α)=true:=by kernel_rfl):PT os β:=
 ⟨.cs ((((Rw.f (xs.getD j Rw.z)).map AV.d).drop o).take m) (k (xs.getD j Rw.z)).a,fun E=>Ek (Af Rw.e xs) (j*Rw.s α+o) ((((Rw.f (xs.getD j Rw.z)).map AV.d).drop o).take m)∧(k (xs.getD j Rw.z)).q E,xs[j]?.bind fun x=>(k x).m,fun E=>∀x,(k x).n E,fun E d y hm c=>by
  obtain⟨x,a,b⟩:=bind_some hm
  have e:xs.getD j Rw.z=x:=by rw[Yp,a];rfl
  exact⟨ZWB f (Yb.1 a).1,by rw[e];exact(k x).ok E (d x) y b c⟩⟩
@[reducible] def cag(b:Bool)(xs:List α)(j:Nat)(k:α→PT os β):PT os β:=
 ⟨.cs ((Rw.f (xs.getD j Rw.z)).map .d) (k (xs.getD j Rw.z)).a,fun E=>(b=true→Ek (Af Rw.e xs) (j*Rw.s α) ((Rw.f (xs.getD j Rw.z)).map .d))∧(k (xs.getD j Rw.z)).q E,if(b=true→j<xs.length)then(k (xs.getD j Rw.z)).m else none,fun E=>∀x,(k x).n E,fun E d y hm c=>by
  obtain⟨a,hm⟩:=BU hm
  exact⟨fun e=>Zib (a e) Rw.len Rw.ef,(k _).ok E (d _) y hm c⟩⟩
@[reducible] def st(xs:List α)(j:Nat)(y:α):Sp:=⟨.cs (Af Rw.e (xs.set j y)),fun _=>Iz (Af Rw.e xs) (j*Rw.s α) ((Rw.f y).map .d) (Af Rw.e (xs.set j y)),j<xs.length,inferInstance,fun h _=>ZAQ h Rw.len Rw.ef⟩
@[reducible] def Ah(xs:List α):Sz:=⟨.num ((xs.length:Nat):Int),fun _=>BN ((xs.map (Rw.e (α:=α))).length:Nat) ((xs.length:Nat):Int),fun _=>ZLS _ _⟩
@[reducible] def fl(xs:List α):Sz:=⟨id,fun _=>Gq (Af Rw.e xs),fun _=>A6 _ _⟩
@[reducible] def fz(xs:List α):Sz:=⟨id,fun _=>Hq (Af Rw.e xs) 0 xs.length (Rw.s α) (xs.map Rw.e),fun _=>ko _ Rw.s0 Rw.len⟩
@[reducible] def fr(xs:List α):Sz:=⟨.av (.d (.list (xs.map Rw.e))),fun _=>Hq (Af Rw.e xs) 0 xs.length (Rw.s α) (xs.map Rw.e),fun _=>ko _ Rw.s0 Rw.len⟩
@[reducible] def ap(xs:List α)(y:α)(k:PT os β):PT os β:=⟨.nat 1 (.cs (Af Rw.e [y]) (.cs (Af Rw.e (xs++[y])) (.nat (xs++[y]).length k.a))),
 fun E=>Er (Rw.s α) [] (.d (.list [Rw.f y])) 1 (Af Rw.e [y])∧I9 (Af Rw.e xs) 0 xs.length 1 (Rw.s α) 256 (Af Rw.e [y]) (Af Rw.e (xs++[y])) (xs++[y]).length∧k.q E,
 if xs.length<549755813887 then k.m else none,k.n,fun E b z hm a=>by
  obtain⟨c,hm⟩:=BU hm
  exact⟨Zml _ Rw.len Rw.ef,O8 xs [y] Rw.len rfl rfl (by rw[JM];omega),k.ok E b z hm a⟩⟩
@[reducible] def aq(xs ys:List α)(k:PT os β):PT os β:=⟨.nat ys.length (.cs (Af Rw.e ys) (.cs (Af Rw.e (xs++ys)) (.nat (xs++ys).length k.a))),
 fun E=>Er (Rw.s α) [] (.d (.list (ys.map Rw.e))) ys.length (Af Rw.e ys)∧I9 (Af Rw.e xs) 0 xs.length ys.length (Rw.s α) 256 (Af Rw.e ys) (Af Rw.e (xs++ys)) (xs++ys).length∧k.q E,
 if xs.length+ys.length<549755813888 then k.m else none,k.n,fun E b z hm a=>by
  obtain⟨c,hm⟩:=BU hm
  exact⟨Vu _ _ Rw.len,O8 xs ys Rw.len rfl rfl (by omega),k.ok E b z hm a⟩⟩
@[reducible] def aqf(x:α)(ys:List α)(k:PT os β):PT os β:=⟨.nat ys.length (.cs (Af Rw.e ys) (.cs (Af Rw.e ([x]++ys)) (.nat ([x]++ys).length k.a))),
 fun E=>Er (Rw.s α) [] (.d (.list (ys.map Rw.e))) ys.length (Af Rw.e ys)∧I9 ((Rw.f x).map .d) 0 1 ys.length (Rw.s α) 256 (Af Rw.e ys) (Af Rw.e ([x]++ys)) ([x]++ys).length∧k.q E,
 if ys.length<549755813887 then k.m else none,k.n,fun E b z hm a=>by
  obtain⟨c,hm⟩:=BU hm
  have e:(Rw.f x).map AV.d=Af Rw.e [x]:=by rw[←Rw.ef x];simp[Af]
  rw[e]
  exact⟨Vu _ _ Rw.len,O8 [x] ys Rw.len rfl rfl (by rw[JM];omega),k.ok E b z hm a⟩⟩
@[reducible] def ar(xs ys:List α)(kk:Ad)(g:Nat)(k:PT os β):PT os β:=⟨.nat ys.length (.cs (Af Rw.e ys) (.cs (Af Rw.e (xs++ys)) (.nat (xs++ys).length k.a))),
 fun E=>Er (Rw.s α) (Af Rw.e ys) (.ref kk g 0 ys.length) ys.length (Af Rw.e ys)∧I9 (Af Rw.e xs) 0 xs.length ys.length (Rw.s α) 256 (Af Rw.e ys) (Af Rw.e (xs++ys)) (xs++ys).length∧k.q E,
 if xs.length+ys.length<549755813888 then k.m else none,k.n,fun E b z hm a=>by
  obtain⟨c,hm⟩:=BU hm
  exact⟨ZBR _ _ _ Rw.len,O8 xs ys Rw.len rfl rfl (by omega),k.ok E b z hm a⟩⟩
@[reducible] def a1(y:α)(k:PT os β):PT os β:=⟨.nat 1 (.cs (Af Rw.e [y]) k.a),fun E=>Er (Rw.s α) [] (.d (.list [Rw.f y])) 1 (Af Rw.e [y])∧OA 1 256∧k.q E,k.m,k.n,fun E b z hm a=>⟨Zml _ Rw.len Rw.ef,by unfold OA;decide,k.ok E b z hm a⟩⟩
@[reducible] def a0(ys:List α)(k:PT os β):PT os β:=⟨.nat ys.length (.cs (Af Rw.e ys) k.a),fun E=>Er (Rw.s α) [] (.d (.list (ys.map Rw.e))) ys.length (Af Rw.e ys)∧OA ys.length 256∧k.q E,if ys.length<549755813888 then k.m else none,k.n,fun E b z hm a=>by
  obtain⟨c,hm⟩:=BU hm
  exact⟨Vu _ _ Rw.len,by unfold OA;omega,k.ok E b z hm a⟩⟩
@[reducible] def qK(xs:List α)(y z:α)(k:PT os β):PT os β:=⟨.nat 2 (.cs (Af Rw.e [y,z]) (.cs (Af Rw.e (xs++[y,z])) (.nat (xs++[y,z]).length k.a))),
 fun E=>Er (Rw.s α) [] (.d (.list [Rw.f y,Rw.f z])) 2 (Af Rw.e [y,z])∧I9 (Af Rw.e xs) 0 xs.length 2 (Rw.s α) 256 (Af Rw.e [y,z]) (Af Rw.e (xs++[y,z])) (xs++[y,z]).length∧k.q E,
 if xs.length<549755813886 then k.m else none,k.n,fun E b w hm a=>by
  obtain⟨c,hm⟩:=BU hm
  refine⟨?_,O8 xs [y,z] Rw.len rfl rfl (by simp only[DB,FE];omega),k.ok E b w hm a⟩
  have:=Vu (sz:=Rw.s α) (e:=Rw.e) ([]:List AV) [y,z] Rw.len
  rw[←Rw.ef,←Rw.ef];exact this⟩
@[reducible] def ms(m:Nat)(z:α)(a:List AV)(d:(Rw.e z).map .d=a)(k:PT os β):PT os β:=⟨.nat (List.replicate m z).length (.cs (Af Rw.e (List.replicate m z)) k.a),
 fun E=>sn ((m:Nat):Int) ((m:Nat):Int) 256 (List.replicate m z).length a (Af Rw.e (List.replicate m z))∧k.q E,if m≤549755813888 then k.m else none,k.n,fun E c y hm b=>by
  obtain⟨e,hm⟩:=BU hm
  exact⟨⟨by rw[sI],Int.le_refl _,by omega,by rw[sI];exact ZJk d m⟩,k.ok E c y hm b⟩⟩
@[reducible] def rn(j d n:Nat)(xs:List α)(k:PT os β):PT os β:=⟨.reb j d xs.length (Af Rw.e xs) k.a,
 fun E=>(n=xs.length∧0*Rw.s α≤(Af (Rw.e (α:=α)) xs).length∧(Af Rw.e xs).drop (0*Rw.s α)=Af Rw.e xs)∧k.q E,if n=xs.length then k.m else none,k.n,fun E c y hm b=>by
  obtain⟨a,hm⟩:=BU hm
  exact⟨⟨a,by rw[Hy];exact DE _,by rw[Hy];rfl⟩,k.ok E c y hm b⟩⟩
@[reducible] def Fq(n:Nat)(xs:List α):Sp:=⟨.av (.d (.list (xs.map Rw.e))),fun _=>Hq (Af Rw.e xs) 0 n (Rw.s α) (xs.map Rw.e),n=xs.length,inferInstance,fun h _=>ZLw h (ko _ Rw.s0 Rw.len)⟩
@[reducible] def Fu(xs:List α)(j a:Nat)(vs:List D)(Y:α→α)(he:∀x,Rw.e (Y x)=(Rw.e x).take a++vs++(Rw.e x).drop (a+vs.length))(k:List α→PT os β)(f:Nat.ble (a+vs.length) (Rw.s α)=true:=by kernel_rfl):PT os β:=
 ⟨.cs (Af Rw.e (xs.set j (Y (xs.getD j Rw.z)))) (k (xs.set j (Y (xs.getD j Rw.z)))).a,fun E=>Iz (Af Rw.e xs) (j*Rw.s α+a) (vs.map .d) (Af Rw.e (xs.set j (Y (xs.getD j Rw.z))))∧(k (xs.set j (Y (xs.getD j Rw.z)))).q E,xs[j]?.bind fun x=>(k (xs.set j (Y x))).m,fun E=>∀l,(k l).n E,fun E g y hm d=>by
  obtain⟨x,b,c⟩:=bind_some hm
  have e:xs.getD j Rw.z=x:=by rw[Yp,b];rfl
  exact⟨ZBl (Yb.1 b).1 Rw.len (Yi f) (he _),by rw[e];exact(k _).ok E (g _) y c d⟩⟩
@[reducible] def rb(j d n:Nat)(xs:List α)(off:Nat)(k:PT os β):PT os β:=⟨.reb j d (xs.drop off).length (Af Rw.e (xs.drop off)) k.a,
 fun E=>(n=(xs.drop off).length∧off*Rw.s α≤(Af (Rw.e (α:=α)) xs).length∧(Af Rw.e xs).drop (off*Rw.s α)=Af Rw.e (xs.drop off))∧k.q E,if n=(xs.drop off).length∧off≤xs.length then k.m else none,k.n,fun E c y hm b=>by
  obtain⟨a,hm⟩:=BU hm
  exact⟨ZMC a.1 a.2 Rw.len,k.ok E c y hm b⟩⟩
end
@[reducible] def Hm(q:Nat)(vs:List AV)(low:∀r:Ren,FX r (0,q) vs)(k:PT os β)(c:Nat.ble (q+1) os=true:=by kernel_rfl):PT os β:=
 ⟨k.a,fun E=>Lu E.r (0,q)∧FX E.r (0,q) vs∧k.q E,k.m,k.n,fun E b y hm a=>⟨⟨rfl,by rw[E.g.no,E.g.κ];exact E.co.W q (Yi c)⟩,low _,k.ok E b y hm a⟩⟩
inductive Bd
 |no
 |nt (n:Nat)
 |it (x:Int)
def Bd.ov:Bd→Option AV
 |.no=>none
 |.nt n=>some (.d (.int .i64 (n:Int)))
 |.it x=>some (.d (.int .i64 x))
def Bd.vl(d:Nat):Bd→Nat
 |.no=>d
 |.nt n=>n
 |.it x=>x.toNat
def Bd.c:Bd→Prop
 |.it x=>0≤x
 |_=>True
instance (b:Bd):Decidable b.c:=by cases b<;>unfold Bd.c<;>infer_instance
theorem Bd.ok{d:Nat}{b:Bd}(h:b.c):Dg d b.ov (b.vl d):=by
 cases b with
 |no=>rfl
 |nt n=>rfl
 |it x=>exact(Int.toNat_of_nonneg h).symm
@[reducible] def ss(s:ByteArray)(lo hi:Bd)(k:ByteArray→PT os β):PT os β:=
 ⟨.nat (lo.vl 0) (.nat (hi.vl s.size) (k (s.extract (lo.vl 0) (hi.vl s.size))).a),fun E=>Dg 0 lo.ov (lo.vl 0)∧Dg s.size hi.ov (hi.vl s.size)∧EZ (lo.vl 0) (hi.vl s.size) s.size∧(k (s.extract (lo.vl 0) (hi.vl s.size))).q E,
 if lo.c∧hi.c∧lo.vl 0≤hi.vl s.size∧hi.vl s.size≤s.size then(k (s.extract (lo.vl 0) (hi.vl s.size))).m else none,fun E=>∀x,(k x).n E,fun E c y hm b=>by
  obtain⟨a,hm⟩:=BU hm
  exact⟨Bd.ok a.1,Bd.ok a.2.1,a.2.2,(k _).ok E (c _) y hm b⟩⟩
@[reducible] def ssg(b:Bool)(s:ByteArray)(lo hi:Bd)(k:ByteArray→PT os β):PT os β:=
 ⟨.nat (lo.vl 0) (.nat (hi.vl s.size) (k (s.extract (lo.vl 0) (hi.vl s.size))).a),fun E=>(b=true→Dg 0 lo.ov (lo.vl 0))∧(b=true→Dg s.size hi.ov (hi.vl s.size))∧(b=true→EZ (lo.vl 0) (hi.vl s.size) s.size)∧(k (s.extract (lo.vl 0) (hi.vl s.size))).q E,
 if(b=true→lo.c∧hi.c∧lo.vl 0≤hi.vl s.size∧hi.vl s.size≤s.size)then(k (s.extract (lo.vl 0) (hi.vl s.size))).m else none,fun E=>∀x,(k x).n E,fun E d y hm c=>by
  obtain⟨a,hm⟩:=BU hm
  exact⟨fun e=>Bd.ok (a e).1,fun e=>Bd.ok (a e).2.1,fun e=>(a e).2.2,(k _).ok E (d _) y hm c⟩⟩
section
variable {α:Type} [Rw α]
@[reducible] def sL(xs:List α)(lo hi:Bd)(k:List α→PT os β):PT os β:=
 ⟨.nat (lo.vl 0) (.nat (hi.vl xs.length) (.av (.d (.list (((xs.drop (lo.vl 0)).take (hi.vl xs.length-lo.vl 0)).map Rw.e))) (k ((xs.drop (lo.vl 0)).take (hi.vl xs.length-lo.vl 0))).a)),
 fun E=>Dg 0 lo.ov (lo.vl 0)∧Dg (xs.map (Rw.e (α:=α))).length hi.ov (hi.vl xs.length)∧EZ (lo.vl 0) (hi.vl xs.length) (xs.map (Rw.e (α:=α))).length∧NR (xs.map Rw.e) (Rw.s α) (lo.vl 0) (hi.vl xs.length) (((xs.drop (lo.vl 0)).take (hi.vl xs.length-lo.vl 0)).map Rw.e)∧(k ((xs.drop (lo.vl 0)).take (hi.vl xs.length-lo.vl 0))).q E,
 if lo.c∧hi.c∧lo.vl 0≤hi.vl xs.length∧hi.vl xs.length≤xs.length then(k ((xs.drop (lo.vl 0)).take (hi.vl xs.length-lo.vl 0))).m else none,fun E=>∀x,(k x).n E,fun E c y hm b=>by
  obtain⟨a,hm⟩:=BU hm
  exact⟨Bd.ok a.1,by rw[YE];exact Bd.ok a.2.1,Zs1 a.2.2,Zx9 Rw.len,(k _).ok E (c _) y hm b⟩⟩
@[reducible] def sLg(b:Bool)(xs:List α)(lo hi:Bd)(k:List α→PT os β):PT os β:=
 ⟨.nat (lo.vl 0) (.nat (hi.vl xs.length) (.av (.d (.list (((xs.drop (lo.vl 0)).take (hi.vl xs.length-lo.vl 0)).map Rw.e))) (k ((xs.drop (lo.vl 0)).take (hi.vl xs.length-lo.vl 0))).a)),
 fun E=>(b=true→Dg 0 lo.ov (lo.vl 0))∧(b=true→Dg (xs.map (Rw.e (α:=α))).length hi.ov (hi.vl xs.length))∧(b=true→EZ (lo.vl 0) (hi.vl xs.length) (xs.map (Rw.e (α:=α))).length)∧(b=true→NR (xs.map Rw.e) (Rw.s α) (lo.vl 0) (hi.vl xs.length) (((xs.drop (lo.vl 0)).take (hi.vl xs.length-lo.vl 0)).map Rw.e))∧(k ((xs.drop (lo.vl 0)).take (hi.vl xs.length-lo.vl 0))).q E,
 if(b=true→lo.c∧hi.c∧lo.vl 0≤hi.vl xs.length∧hi.vl xs.length≤xs.length)then(k ((xs.drop (lo.vl 0)).take (hi.vl xs.length-lo.vl 0))).m else none,fun E=>∀x,(k x).n E,fun E d y hm c=>by
  obtain⟨a,hm⟩:=BU hm
  exact⟨fun e=>Bd.ok (a e).1,fun e=>by rw[YE];exact Bd.ok (a e).2.1,fun e=>Zs1 (a e).2.2,fun _=>Zx9 Rw.len,(k _).ok E (d _) y hm c⟩⟩
end
@[reducible] def sR(len off:Nat)(lo hi:Bd)(k:PT os β):PT os β:=
 ⟨.nat (lo.vl 0) (.nat (hi.vl len) (.nat (off+lo.vl 0) (.nat (hi.vl len-lo.vl 0) k.a))),fun E=>Dg 0 lo.ov (lo.vl 0)∧Dg len hi.ov (hi.vl len)∧EZ (lo.vl 0) (hi.vl len) len∧Zr off (lo.vl 0) (hi.vl len) (off+lo.vl 0) (hi.vl len-lo.vl 0)∧k.q E,
 if lo.c∧hi.c∧lo.vl 0≤hi.vl len∧hi.vl len≤len then k.m else none,k.n,fun E c y hm b=>by
  obtain⟨a,hm⟩:=BU hm
  exact⟨Bd.ok a.1,Bd.ok a.2.1,a.2.2,⟨rfl,rfl⟩,k.ok E c y hm b⟩⟩
@[reducible] def A9(n:Nat):Sz:=⟨.num ((n:Nat):Int),fun _=>BN ((n:Nat):Int) ((n:Nat):Int),fun _=>rfl⟩
@[reducible] def wa(a b:Nat):Sp:=⟨.num ((a+b:Nat):Int),fun _=>CB .i64 (((a:Nat):Int)+((b:Nat):Int)) ((a+b:Nat):Int),a+b<9223372036854775808,inferInstance,fun h _=>tX (by omega) (by omega) (by omega)⟩
@[reducible] def wi(x:Int):Sp:=⟨.num x,fun _=>CB .i64 x x,-9223372036854775808≤x∧x<9223372036854775808,inferInstance,fun h _=>tX rfl h.1 h.2⟩
@[reducible] def wk(i:IntKind)(x:Int):Sz:=⟨.num (i.wrap x),fun _=>CB i x (i.wrap x),fun _=>rfl⟩
@[reducible] def ir(i len sz:Nat):Sp:=⟨.nat (i*sz),fun _=>LR ((i:Nat):Int) len 0 sz (i*sz),i<len,inferInstance,fun h _=>ZWC h⟩
@[reducible] def CM(i:Int)(len sz:Nat):Sp:=⟨.nat (i.toNat*sz),fun _=>LR i len 0 sz (i.toNat*sz),0≤i∧i<len,inferInstance,fun h _=>ZrO h.1 h.2⟩
@[reducible] def ib(s:ByteArray)(i:Nat)(k:UInt8→PT os β):PT os β:=
 ⟨.num ((s.data.toList.getD i 0).toNat:Nat) (k (s.data.toList.getD i 0)).a,fun E=>I3 s (i:Nat) ((s.data.toList.getD i 0).toNat:Nat)∧(k (s.data.toList.getD i 0)).q E,s.data.toList[i]?.bind fun x=>(k x).m,fun E=>∀x,(k x).n E,fun E f y hm d=>by
  obtain⟨x,b,c⟩:=bind_some hm
  have e:s.data.toList.getD i 0=x:=by rw[Yp,b];rfl
  have a:=(Yb.1 b).1
  exact⟨Zvr (by simpa using a),by rw[e];exact(k x).ok E (f x) y c d⟩⟩
@[reducible] def F9(b:Bool)(s:ByteArray)(i:Int)(k:UInt8→PT os β):PT os β:=
 ⟨.num ((s.data.toList.getD i.toNat 0).toNat:Nat) (k (s.data.toList.getD i.toNat 0)).a,fun E=>(b=true→I3 s i ((s.data.toList.getD i.toNat 0).toNat:Nat))∧(k (s.data.toList.getD i.toNat 0)).q E,if(b=true→0≤i∧i<s.size)then(k (s.data.toList.getD i.toNat 0)).m else none,fun E=>∀x,(k x).n E,fun E d y hm c=>by
  obtain⟨a,hm⟩:=BU hm
  exact⟨fun e=>ZoW (a e).1 (a e).2,(k _).ok E (d _) y hm c⟩⟩
@[reducible] def QV(s:ByteArray)(i:Int)(k:UInt8→PT os β):PT os β:=
 ⟨.num ((s.data.toList.getD i.toNat 0).toNat:Nat) (k (s.data.toList.getD i.toNat 0)).a,fun E=>I3 s i ((s.data.toList.getD i.toNat 0).toNat:Nat)∧(k (s.data.toList.getD i.toNat 0)).q E,if 0≤i∧i<s.size then(k (s.data.toList.getD i.toNat 0)).m else none,fun E=>∀x,(k x).n E,fun E c y hm b=>by
  obtain⟨a,hm⟩:=BU hm
  exact⟨ZoW a.1 a.2,(k _).ok E (c _) y hm b⟩⟩
@[reducible] def ad(a b:ByteArray)(k:ByteArray→PT os β):PT os β:=⟨(k (a++b)).a,fun E=>ZXs a b∧(k (a++b)).q E,if a.size+b.size≤9223372036854775807 then(k (a++b)).m else none,fun E=>∀x,(k x).n E,fun E e y hm d=>by
  obtain⟨c,hm⟩:=BU hm
  exact⟨c,(k _).ok E (e _) y hm d⟩⟩
@[reducible] def ri(k:IntKind)(x y:Int):Sz:=⟨.num (Dk k x y),fun _=>BN (Dk k x y) (Dk k x y),fun _=>rfl⟩
@[reducible] def wor(k:IntKind)(x y:Int):Sz:=⟨.num (GF k x y),fun _=>BN (GF k x y) (GF k x y),fun _=>rfl⟩
@[reducible] def wcp(k:IntKind)(x:Int):Sz:=⟨.num (I4 k x),fun _=>BN (I4 k x) (I4 k x),fun _=>rfl⟩
def ZW5(k:IntKind)(x y:Int):Int:=x.fdiv (2^(min y.toNat k.bits))
def ZX1(k:IntKind)(x y:Int):Int:=k.wrap (x*2^(min y.toNat k.bits))
def ZXU(k:IntKind)(x y:Int):Int:=k.wrap (x.tdiv y)
def IS(_:IntKind)(x y:Int):Int:=x.tmod y
@[reducible] def shr(i:IntKind)(x y:Int)(k:PT os β):PT os β:=v2 ⟨.num (ZW5 i x y),fun _=>True,0≤y,inferInstance,fun _ _=>trivial⟩ (fun _=>Rh 0 y) (fun _=>BN (x.fdiv (2^(min y.toNat i.bits))) (ZW5 i x y)) (fun h _=>⟨h,rfl⟩) k
@[reducible] def shl(i:IntKind)(x y:Int)(k:PT os β):PT os β:=v2 ⟨.num (ZX1 i x y),fun _=>True,0≤y,inferInstance,fun _ _=>trivial⟩ (fun _=>Rh 0 y) (fun _=>CB i (x*2^(min y.toNat i.bits)) (ZX1 i x y)) (fun h _=>⟨h,rfl⟩) k
@[reducible] def quo(i:IntKind)(x y:Int)(k:PT os β):PT os β:=v2 ⟨.num (ZXU i x y),fun _=>True,y≠0,inferInstance,fun _ _=>trivial⟩ (fun _=>Ri y 0) (fun _=>CB i (x.tdiv y) (ZXU i x y)) (fun h _=>⟨h,rfl⟩) k
@[reducible] def rem(i:IntKind)(x y:Int)(k:PT os β):PT os β:=v2 ⟨.num (IS i x y),fun _=>True,y≠0,inferInstance,fun _ _=>trivial⟩ (fun _=>Ri y 0) (fun _=>BN (x.tmod y) (IS i x y)) (fun h _=>⟨h,rfl⟩) k
structure KC (P:Program) (f:FuncId) (xs:List AV) {γ:Type} (M:Option γ) (e:γ→AV):Prop where
 k:∀l H y,M=some y→ZcW P f l xs H (fun z H'=>z=e y∧H'=H)
 x:∀r,Aq r xs=xs
 e:∀r y,ren r (e y)=e y
@[reducible] def cl{P:Program}{f:FuncId}{xs:List AV}{γ:Type}[Inhabited γ]{M:Option γ}{e:γ→AV}(K:KC P f xs M e)(k:γ→PT os β):PT os β:=
 ⟨.call (e (M.getD default)) [] (k (M.getD default)).a,fun E=>Ih P E.l E.r f xs [] (e (M.getD default))∧(k (M.getD default)).q E,M.bind fun y=>(k y).m,fun E=>∀y,(k y).n E,fun E h y hm g=>by
  obtain⟨x,a,c⟩:=bind_some hm
  have d:M.getD default=x:=by rw[a];rfl
  rw[d]
  exact⟨fun b _ _=>by rw[K.x,K.e];exact K.k _ b x a,(k x).ok E (h x) y c g⟩⟩
@[reducible] def Az(b:Bool){P:Program}{f:FuncId}{xs:List AV}{γ:Type}[Inhabited γ]{M:Option γ}{e:γ→AV}(K:KC P f xs M e)(k:γ→PT os β):PT os β:=
 ⟨.call (e (M.getD default)) [] (k (M.getD default)).a,fun E=>(b=true→Ih P E.l E.r f xs [] (e (M.getD default)))∧(k (M.getD default)).q E,if(b=true→M.isSome=true)then(k (M.getD default)).m else none,fun E=>∀y,(k y).n E,fun E j y hm h=>by
  obtain⟨d,hm⟩:=BU hm
  refine⟨fun i c _ _=>?_,(k _).ok E (j _) y hm h⟩
  obtain⟨x,a⟩:=Fy.1 (d i)
  have g:M.getD default=x:=by rw[a];rfl
  rw[K.x,K.e,g];exact K.k _ c x a⟩
theorem KC.nrm{P:Program}{f:FuncId}{xs xs':List AV}{γ:Type}{M:Option γ}{e:γ→AV}(K:KC P f xs M e)(h:∀l H Post,ZcW P f l xs H Post→ZcW P f l xs' H Post)(a:∀r,Aq r xs'=xs'):KC P f xs' M e:=⟨fun l H y hm=>h _ _ _ (K.k l H y hm),a,K.e⟩
end
section
variable {P:Program} {T:Nat→Option TI} {n:Nat} {C:Cx} {τ σ:St} {Q:Exit→St→Prop} {os:Nat} {p:List Nat} {b:Code}
def pa:List Nat→Code→Code
 |[],c=>c
 |i::p,c=>Il [i] (pa p c)
def ZVx:Code→Bool
 |.seq _ _=>true
 |_=>false
def ZWp(i:Nat):Code→Bool
 |.block j _=>Nat.beq j i
 |_=>false
def ZWy:Code→Bool
 |.cond _ _ _=>true
 |_=>false
def ZUW:Code→Bool
 |.loop _=>true
 |_=>false
theorem sq(h:LW P n C (pa (0::p) b) τ (fun e τ'=>match e with|.normal=>LW P n C (pa (1::p) b) τ' Q|e=>Q e τ'))(hs:ZVx (pa p b)=true:=by kernel_rfl):LW P n C (pa p b) τ Q:=by
 unfold pa at h
 generalize pa p b=c at*
 cases c with
 |seq x y=>exact ZP9 h
 |_=>cases hs
def Tt(P:Program)(T:Nat→Option TI)(l n os:Nat)(r:Ren):Nat→Code→AT→St→(Exit→St→AT→Prop)→Prop
 |0,_,a,τ,K=>K .normal τ a
 |m+1,.seq x y,a,τ,K=>C4 P T l n os r x a τ (fun e τ' b=>match e with|.normal=>Tt P T l n os r m y b τ' K|e=>K e τ' b)
 |_,_,_,_,_=>False
def NI:Nat→Code→Code
 |m+1,.seq _ y=>NI m y
 |_,c=>c
def up:Nat→List Nat→List Nat
 |0,p=>p
 |m+1,p=>up m (1::p)
def XX:Nat→Code→Bool
 |m+1,.seq _ y=>XX m y
 |0,_=>true
 |_,_=>false
theorem wu:∀(m:Nat) (p:List Nat),XX m (pa p b)=true→NI m (pa p b)=pa (up m p) b
 |0,p,_=>by
  show NI 0 (pa p b)=pa p b
  cases pa p b<;>rfl
 |m+1,p,h=>by
  have a:=wu m (1::p)
  have e:pa (1::p) b=Il [1] (pa p b):=rfl
  show NI (m+1) (pa p b)=pa (up m (1::p)) b
  generalize pa p b=c at*
  cases c with
  |seq x y=>
   have e:pa (1::p) b=y:=e
   rw[e]at a
   exact a h
  |_=>cases h
theorem Zjj(o:CxOk C)(q:Bg P T)(hm:P.follows .mixedOrders=true){γ:Ad→Nat}{QQ:Exit→St→Prop}(r:∀e σ b,QQ e b→Wk n C σ b→QQ e σ):∀(m:Nat) (c:Code) (a:AT) (τ σ:St) (K:Exit→St→AT→Prop),Tt P T C.l n C.outs (C.r γ) m c a τ K→RG (C.r γ) C.l C.outs [] τ σ→
  (∀τ' d b,K .normal τ' d→RG (C.r γ) C.l C.outs [] τ' b→BR P C.l n C.B (NI m c) QQ b)→(∀e τ' d b,e≠.normal→K e τ' d→RG (C.r γ) C.l C.outs [] τ' b→QQ e b)→BR P C.l n C.B c QQ σ
 |0,c,a,τ,σ,K,h,f,g,_=>by
  have:=g τ a σ h f
  have e:NI 0 c=c:=by cases c<;>rfl
  grind
 |m+1,c,a,τ,σ,K,h,f,g,p=>by
  cases c with
  |seq x y=>
   refine jQ (HZ (Gh o q hm x a τ σ _ h f) fun e b hi=>?_)
   obtain⟨τ',d,i,j,k,l⟩:=hi
   cases e with
   |normal=>exact BR.weak (Zjj o q hm r m y d τ' i K j k g p) l
   |_=>exact r _ _ _ (p _ _ _ _ (by intro e;cases e) j k) l
  |_=>exact h.elim
variable {β:Type} {Post:AV→List Blk→Prop} {rs:List ResultVar} {L:β→Prop} {y:β}
theorem Ap{fx:List Nat}(co:COx C os fx)(i:Bg P T)(hm:P.follows .mixedOrders=true){c:Code}(v:PT os β)(h:v.m=some y)(f:HL L y)
  (j:∀r (g:Gd C r),v.n ⟨⟨C.l,r,fun _ _=>False,Post⟩,L,C,_,co,g,rfl⟩) (k:∀l r Q Post,C4 P T l n os r c v.a τ (KF T rs os Post)=v.q ⟨l,r,Q,Post⟩:=by intro l r Q P;kernel_rfl):LW P n C c τ (FQ T rs os Post):=
 ZJ8 co.ok i hm co.O v.a rs (fun r Post=>v.q ⟨C.l,r,fun _ _=>False,Post⟩) (fun r Post=>k _ r _ Post) fun r a b d e=>v.ok _ (j r ⟨a,b,d,e⟩) y h f
theorem Av{fx:List Nat}(co:COx C os fx)(k:Bg P T)(hm:P.follows .mixedOrders=true){c:Code}(v:PT os β)(lf a:Lf)(j:∀τ,FQ T rs os Post .ret τ→Q .ret τ)(h:v.m=some y)(i:HL L y)
  (m:∀r (g:Gd C r),v.n ⟨⟨C.l,r,Q,Post⟩,L,C,_,co,g,rfl⟩) (o:∀l r Q Post,C4 P T l n os r c v.a τ (KB T rs os fx r Post lf a Q)=v.q ⟨l,r,Q,Post⟩:=by intro l r Q P;kernel_rfl):LW P n C c τ Q:=
 ZL1 co.ok k hm co.O co.F v.a lf a rs (fun r Q Post=>v.q ⟨C.l,r,Q,Post⟩) (o _) j fun r b d e f=>v.ok _ (m r ⟨b,d,e,f⟩) y h i
theorem Ak{fx:List Nat}(co:COx C os fx)(I:Bg P T)(hm:P.follows .mixedOrders=true)(m:Nat)(v:PT os β)(lf O:Lf)(H:∀τ,FQ T rs os Post .ret τ→Q .ret τ)(M:v.m=some y)(G:HL L y)
  (J:∀r (g:Gd C r),v.n ⟨⟨C.l,r,fun e τ'=>match e with|.normal=>LW P n C (pa (up m p) b) τ' Q|e=>Q e τ',Post⟩,L,C,_,co,g,rfl⟩)
  (K:∀l r Q Post,Tt P T l n os r m (pa p b) v.a τ (KB T rs os fx r Post lf O Q)=v.q ⟨l,r,Q,Post⟩:=by intro l r Q P;kernel_rfl) (hl:XX m (pa p b)=true:=by kernel_rfl):LW P n C (pa p b) τ Q:=by
 intro γ σ u F
 have s:=v.ok _ (J (C.r γ) ⟨rfl,rfl,rfl,rfl⟩) y M G
 rw[←K]at s
 generalize v.a=a at s
 rw[←co.O,←co.F]at s
 refine Zjj co.ok I hm (QQ:=fun e σ=>Is n C (Q e) σ) (fun e σ D hi hw=>?_) m _ _ _ _ _ s F (fun τ' q D d c=>?_) (fun e τ' q D w d c=>?_)
 ·obtain⟨k,t,o,N,f,h,j⟩:=hi
  exact⟨k,t,o,N,f,h,hw.trans j⟩
 ·simp only[KB]at d
  obtain⟨S,E,R,f,h,j⟩:=Cm (n:=n) co.ok q d c
  obtain⟨k,t,o,x,z,A,B⟩:=HW (n:=n) co.ok f u h
  rw[wu m p hl]
  exact BR.weak (z k o x A) (j.trans B)
 ·cases e with
  |normal=>exact absurd rfl w
  |ret=>exact .of u c (H _ ⟨.inr rfl,q,by rw[←co.O];exact d⟩)
  |exit i=>
   simp only[KB]at d
   obtain⟨S,E,R,f,h,j⟩:=Cm (n:=n) co.ok q d c
   obtain⟨k,t,o,x,z,A,B⟩:=HW (n:=n) co.ok f u h
   exact⟨k,t,o,x,z,A,j.trans B⟩
  |_=>exact d.elim
theorem ZUN{f:Type}{fx:List Nat}(co:COx C os fx)(k:Bg P T)(hm:P.follows .mixedOrders=true)(m:Nat)(v:PT os β)(lf d:Lf)(j:∀τ,FQ T rs os Post .ret τ→Q .ret τ)(s:v.m=some y)(i:HL L y)(c:f→St)(a:f→Option β)
  (h:∀x y,a x=some y→HL L y→LW P n C (pa (up m p) b) (c x) Q)
  (o:(∀x y,a x=some y→HL L y→LW P n C (pa (up m p) b) (c x) Q)→∀r (g:Gd C r),v.n ⟨⟨C.l,r,fun e τ'=>match e with|.normal=>LW P n C (pa (up m p) b) τ' Q|e=>Q e τ',Post⟩,L,C,_,co,g,rfl⟩)
  (q:∀l r Q Post,Tt P T l n os r m (pa p b) v.a τ (KB T rs os fx r Post lf d Q)=v.q ⟨l,r,Q,Post⟩:=by intro l r Q P;kernel_rfl) (hl:XX m (pa p b)=true:=by kernel_rfl):LW P n C (pa p b) τ Q:=
 Ak co k hm m v lf d j s i (o h) q hl
theorem bk(i:Nat)(h:LW P n C (pa (0::p) b) τ (fun e τ'=>match e with|.exit j=>(match Nat.beq j i with|true=>Q .normal τ'|false=>Q (.exit j) τ')|e=>Q e τ'))(hs:ZWp i (pa p b)=true:=by kernel_rfl):LW P n C (pa p b) τ Q:=by
 unfold pa at h
 generalize pa p b=c at*
 cases c with
 |block j x=>exact ZyK i x (by rw[show j=i from Yd hs]) h
 |_=>cases hs
theorem cd(x:Bool){f g:Option β}(hm:(if x=true then f else g)=some y)(a:f=some y→LW P n C (pa (0::p) b) τ Q)(d:g=some y→LW P n C (pa (1::p) b) τ Q)(hs:ZWy (pa p b)=true:=by kernel_rfl)(he:ev τ.s (ZQQ (pa p b))=.d (.bool x):=by kernel_rfl):LW P n C (pa p b) τ Q:=by
 unfold pa at a d
 generalize pa p b=c at*
 cases c with
 |cond o u v=>exact ZJK he (fun e=>a (by rw[Yg e]at hm;exact hm)) (fun e=>d (by rw[Yf (by rw[e];decide)]at hm;exact hm))
 |_=>cases hs
theorem lo(h:LL P n C (pa (0::p) b) τ Q)(hs:ZUW (pa p b)=true:=by kernel_rfl):LW P n C (pa p b) τ Q:=by
 unfold pa at h
 generalize pa p b=c at*
 cases c with
 |loop x=>exact ZHU h
 |_=>cases hs
theorem fG(v:PT os β){fx:List Nat}(co:COx C os fx)(e:v.m=some y)(a:HL L y)(b:∀r (g:Gd C r),v.n ⟨⟨C.l,r,fun _ _=>False,Post⟩,L,C,_,co,g,rfl⟩)(r:Ren)(d:Gd C r)
  (c:∀l r Q Post,Ou T rs os τ v.a Post=v.q ⟨l,r,Q,Post⟩:=by intro l r Q P;kernel_rfl):FQ T rs os Post .normal τ:=
 ⟨.inl rfl,v.a,by rw[c C.l r (fun _ _=>False) Post];exact v.ok _ (b r d) y e a⟩
end
section
variable {σ ξ ρ:Type}
def An(B:σ→Option (Lv σ ξ ρ)):Nat→σ→Option (ξ ⊕ ρ)
 |0,_=>none
 |n+1,v=>match B v with
  |some (.nx a)=>An B n a
  |some (.ex b)=>some (.inl b)
  |some (.rt y)=>some (.inr y)
  |none=>none
def Aj:Nat:=4611686018427387904
def Zq(S:σ→St)(X:ξ→Nat×St)(er:ρ→AV)(bs:ρ→List Blk)(Q:Exit→St→Prop)(Post:AV→List Blk→Prop):Lv σ ξ ρ→Prop
 |.nx v=>Q .normal (S v)
 |.ex b=>Q (.exit (X b).1) (X b).2
 |.rt y=>Post (er y) (bs y)
variable {P:Program} {T:Nat→Option TI} {n:Nat} {C:Cx} {τ:St} {Q:Exit→St→Prop} {rs:List ResultVar} {os:Nat} {c:Code} {Post:AV→List Blk→Prop}
variable {S:σ→St} {X:ξ→Nat×St} {er:ρ→AV} {bs:ρ→List Blk} {B:σ→Option (Lv σ ξ ρ)}
def KL(P:Program)(T:Nat→Option TI)(n:Nat)(C:Cx)(c:Code)(rs:List ResultVar)(os:Nat)(S:σ→St)(X:ξ→Nat×St)(er:ρ→AV)(bs:ρ→List Blk)(B:σ→Option (Lv σ ξ ρ)):Prop:=
 ∀v o,B v=some o→∀(Q:Exit→St→Prop) (Post:AV→List Blk→Prop),(∀τ,FQ T rs os Post .ret τ→Q .ret τ)→HL (Zq S X er bs Q Post) o→LW P n C c (S v) Q
theorem Zjp(g:KL P T n C c rs os S X er bs B)(f:∀τ,FQ T rs os Post .ret τ→Q .ret τ):∀(k:Nat) (v:σ) (o:ξ ⊕ ρ),An B k v=some o→
  (∀b,o=.inl b→Q (.exit (X b).1) (X b).2)→(∀y,o=.inr y→Post (er y) (bs y))→LL P n C c (S v) Q
 |0,v,o,h,_,_=>by cases h
 |k+1,v,o,h,d,e=>by
  rw[An]at h
  refine ZoD ?_
  cases a:B v with
  |none=>rw[a]at h;cases h
  |some w=>
   rw[a]at h
   refine g v w a _ Post (fun τ i=>f τ i) ?_
   cases w with
   |nx j=>exact Zjp g f k j o h d e
   |ex b=>cases h;exact d b rfl
   |rt y=>cases h;exact e y rfl
theorem lpB{β:Type}{k:ξ ⊕ ρ→Option β}{N:Nat}{v:σ}{y:β}(i:KL P T n C c rs os S X er bs B)(h:∀τ,FQ T rs os Post .ret τ→Q .ret τ)(hm:(An B N v).bind k=some y)
  (f:∀b,k (.inl b)=some y→Q (.exit (X b).1) (X b).2) (g:∀z,k (.inr z)=some y→Post (er z) (bs z)):LL P n C c (S v) Q:=by
 obtain⟨o,d,a⟩:=bind_some hm
 exact Zjp i h N v o d (fun b e=>f b (e▸a)) (fun z e=>g z (e▸a))
theorem AF{g:ξ→Option ρ}{N:Nat}{v:σ}{y:ρ}(f:KL P T n C c rs os S X er bs B)(e:∀τ,FQ T rs os Post .ret τ→Q .ret τ)(hm:(An B N v).bind (Sum.elim g some)=some y)(d:HL (fun y=>Post (er y) (bs y)) y)
  (a:∀b,g b=some y→Q (.exit (X b).1) (X b).2) (hs:S v=τ:=by kernel_rfl):LL P n C c τ Q:=
 hs▸lpB f e hm a fun z h=>by cases h;exact d
theorem Ga{d a:Type}{f:d→St}{h:a→Nat×St}{e:Exit→St→Prop}{g:ξ→Option (Lv d a ρ)}{N:Nat}{v:σ}{y:Lv d a ρ}(l:KL P T n C c rs os S X er bs B)(k:∀τ,FQ T rs os Post .ret τ→Q .ret τ)(hm:(An B N v).bind (Sum.elim g fun z=>some (.rt z))=some y)(j:HL (Zq f h er bs e Post) y)
  (i:∀b,g b=some y→Q (.exit (X b).1) (X b).2) (hs:S v=τ:=by kernel_rfl):LL P n C c τ Q:=
 hs▸lpB l k hm i fun z m=>by cases m;exact j
end
theorem Au{P:Program}{T:Nat→Option TI}{n:Nat}{f:FuncId}{fn:Func}{xs:List AV}{γ:Type}{M:Option γ}{e:γ→AV}(g:P.funcs[f]?=some fn)(i:fn.ntmps=n)(c:Bg P T)(rs:List ResultVar)
  (h:∀C:Cx,CO C 0→∀y,M=some y→∀Post:AV→List Blk→Prop,HL (fun y=>Post (e y) []) y→LW P n C (pa [] (Aw fn)) (Ab (Ec 0 xs) []) (FQ T rs 0 Post))
  (b:∀r,Aq r xs=xs:=by intro r;kernel_rfl) (he:∀r y,ren r (e y)=e y:=by intro r y;kernel_rfl)
  (d:fn.body=some (Aw fn):=by kernel_rfl) (a:(fn.name== "runtime.NumGoroutine")=false:=by kernel_rfl) (j:fn.results.toList=rs:=by kernel_rfl) (hl:Nat.ble xs.length n=true:=by kernel_rfl):KC P f xs M e:=
 ⟨fun l H y hm=>Zji rs (Aw fn) (fun _=>.top) xs g d a i j (Yi hl) c (b _) fun B=>h _ ⟨jz l B _ H,rfl,rfl,fun _ h=>absurd h (GO _)⟩ y hm (fun z _=>z=e y∧H=H) ⟨rfl,rfl⟩,b,he⟩
end Go.Eng
namespace Go.Eng
set_option linter.all false
open Go Go.RowKit
def D4:Nat→List Blk→List (Ad×Blk)
 |_,[]=>[]
 |i,b::bs=>((0,i),b)::D4 (i+1) bs
abbrev Cl:=(Ad→Prop)→Nat→Hp→(Nat→AV)→Prop
structure KO (P:Program) (f:FuncId) (os:Nat) (ys:List AV) (bi:List Blk) (Θ:Cl) {γ:Type} (M:Option γ) (e:γ→AV) (bs:γ→List Blk):Prop where
 k:∀l H (ks:List Ad) (gs:List Nat) (θ:Nat→AV),ks.length=os→IX l ks→ks.Nodup→JI H (Cj l ks gs θ H) (D4 0 bi) 0 ks→Θ (fun k=>k∈ks) l H θ→∀y,M=some y→
  ZcW P f l (Aq (Cj l ks gs θ H) ys) H (fun z H'=>z=ren (Cj l ks gs θ H) (e y)∧H'=DH H ks (CR (Cj l ks gs θ H) 0 (bs y)))
mutual
def Lh(os:Nat):AV→Bool
 |.ref k _ _ _=>Nat.beq k.1 0&&Nat.ble (k.2+1) os
 |.ptr k _ _=>Nat.beq k.1 0&&Nat.ble (k.2+1) os
 |.mp k _=>Nat.beq k.1 0&&Nat.ble (k.2+1) os
 |.fn f xs ys=>(match f with|.yield _=>false|_=>true)&&IR os xs&&IR os ys
 |.agg xs=>IR os xs
 |.tup xs=>IR os xs
 |.top=>true
 |.d _=>true
 |.e0=>true
 |.p _=>true
 |.iptr _ _=>true
 |.ifc _ _ _=>true
def IR(os:Nat):List AV→Bool
 |[]=>true
 |x::xs=>Lh os x&&IR os xs
end
def Nb(os:Nat)(r a:Ren):Prop:=∀q,q<os→r.κ (0,q)=a.κ (0,q)∧r.γ (0,q)=a.γ (0,q)
theorem kv{os:Nat}{r c:Ren}(hs:Nb os r c){k:Ad}(h:(Nat.beq k.1 0&&Nat.ble (k.2+1) os)=true):r.κ k=c.κ k∧r.γ k=c.γ k:=by
 simp only[Yc]at h
 obtain⟨a,b⟩:=k
 have d:=Yd h.1
 have e:=Yi h.2
 simp only at d e
 subst d
 exact hs b e
mutual
theorem kE{os:Nat}{r c:Ren}(hs:Nb os r c):∀x:AV,Lh os x=true→ren r x=ren c x
 |.ref k g off n,h=>by obtain⟨a,b⟩:=kv hs h;simp only[ren,a,b]
 |.ptr k g off,h=>by obtain⟨a,b⟩:=kv hs h;simp only[ren,a,b]
 |.mp k g,h=>by obtain⟨a,b⟩:=kv hs h;simp only[ren,a,b]
 |.fn f xs ys,h=>by
  simp only[Lh,Yc]at h
  have a:=MD hs xs h.1.2
  have b:=MD hs ys h.2
  cases f<;>first|(simp only[ren,a,b];done)|(simp at h)
 |.agg xs,h=>by simp only[Lh]at h;simp only[ren,MD hs xs h]
 |.tup xs,h=>by simp only[Lh]at h;simp only[ren,MD hs xs h]
 |.top,_=>by simp[ren]
 |.d _,_=>by simp[ren]
 |.e0,_=>by simp[ren]
 |.p _,_=>by simp[ren]
 |.iptr _ _,_=>by simp[ren]
 |.ifc _ _ _,_=>by simp[ren]
theorem MD{os:Nat}{r a:Ren}(hs:Nb os r a):∀xs:List AV,IR os xs=true→Aq r xs=Aq a xs
 |[],_=>by simp[Aq]
 |x::xs,h=>by
  simp only[IR,Yc]at h
  simp only[Aq,kE hs x h.1,MD hs xs h.2]
end
def Gv(os:Nat):List Blk→Prop
 |[]=>True
 |b::bs=>(Gq b.cells∨IR os b.cells=true)∧b.live=true∧Gv os bs
theorem Gv.ren{os:Nat}{r a:Ren}(hs:Nb os r a):∀(bs:List Blk) (i:Nat),i+bs.length≤os→Gv os bs→CR r i bs=CR a i bs
 |[],_,_,_=>rfl
 |b::bs,i,hl,h=>by
  simp only[DB]at hl
  have d:Aq r b.cells=Aq a b.cells:=by
   rcases h.1 with c|e
   ·rw[HV c,HV c]
   ·exact MD hs _ e
  simp only[CR,Gv.ren hs bs (i+1) (by omega) h.2.2,AL,d,(hs i (by omega)).2]
theorem Gv.live{os:Nat}:∀{bs:List Blk},Gv os bs→∀b∈bs,b.live=true
 |c::bs,h,b,a=>by
  rcases YI.1 a with rfl|a
  ·exact h.2.1
  ·exact Gv.live h.2.2 b a
theorem Nw:Gq []:=fun x a=>by cases a
theorem Bi{P:Program}{T:Nat→Option TI}{n:Nat}{f:FuncId}{fn:Func}{ys:List AV}{bi:List Blk}{Θ:Cl}{γ:Type}{M:Option γ}{e:γ→AV}{bs:γ→List Blk}(G:P.funcs[f]?=some fn)(I:fn.ntmps=n)(E:Bg P T)(u:List ResultVar)(os:Nat)
  (h:∀C:Cx,CO C os→Θ C.no C.l C.H0 C.θ→∀y,M=some y→∀a:AV→List Blk→Prop,HL (fun y=>a (e y) (bs y)) y→LW P n C (pa [] (Aw fn)) (Ab (Ec 0 ys) (D4 0 bi)) (FQ T u os a))
  (he:∀y,Lh os (e y)=true:=by intro y;kernel_rfl) (hB:∀y,Gv os (bs y):=by intro y;repeat(first|exact trivial|refine⟨.inl (A6 _ _),rfl,?_⟩|refine⟨.inl Nw,rfl,?_⟩|refine⟨.inr (by kernel_rfl),rfl,?_⟩)) (hl:∀y,(bs y).length=os:=by intro y;rfl) (o:I8 os (D4 0 bi)=true:=by kernel_rfl)
  (F:fn.body=some (Aw fn):=by kernel_rfl) (c:(fn.name== "runtime.NumGoroutine")=false:=by kernel_rfl) (d:fn.results.toList=u:=by kernel_rfl) (K:Nat.ble ys.length n=true:=by kernel_rfl):KO P f os ys bi Θ M e bs:=
 ⟨fun l H ks g θ p i t B L y hy=>by
  have hN:∀r,Iy l ks g r→Nb os r (Cj l ks g θ H):=fun r d q J=>by
   obtain⟨v,w⟩:=d
   exact⟨congrFun v _,w q (by omega)⟩
  refine ZmV u (Aw fn) ks g os θ ys (D4 0 bi) (e y) (bs y) (Y':=ren (Cj l ks g θ H) (e y)) (bs':=CR (Cj l ks g θ H) 0 (bs y)) G F c I d (by rw[CE];exact Yi K) E p i t o B rfl (hl y) (hB y).live
   (fun r d=>kE (hN r d) _ (he y)) (fun r d=>Gv.ren (hN r d) _ _ (by rw[hl];omega) (hB y)) (fun C x D A s m N O j=>?_) ⟨rfl,rfl⟩
  refine h C ⟨x,D,A,fun q J=>?_⟩ (by rw[j,s,m,N];exact L) y hy (fun z b=>z=e y∧b=bs y) ⟨rfl,rfl⟩
  rw[j,O]
  show(match Bu ks q with|some k=>k|none=>(0,0))∈ks
  rw[Cp,Ye (by omega)]
  exact IC _⟩
def Fg(r:Ren):List (Ad×Blk)→List Nat
 |[]=>[]
 |(k,b)::a=>(r.γ k+b.g)::Fg r a
def BE(r a:Ren):Nat→List Blk→List (Ad×Blk)→Prop
 |i,b::bs,(k,c)::cs=>(b.live=true→c.live=true∧AL r (0,i) b=AL a k c)∧r.γ (0,i)+b.g=a.γ k+c.g∧BE r a (i+1) bs cs
 |_,[],[]=>True
 |_,_,_=>False
def H8:List Ad→Bool
 |[]=>true
 |k::ks=>!(ks.any (BM k))&&H8 ks
theorem O5{κ:Ad→Ad}{os:Nat}(a:∀q k:Ad,BQ os q=true→BQ os k=true→q≠k→κ q≠κ k):∀(ks:List Ad),H8 ks=true→ks.all (BQ os)=true→(ks.map κ).Nodup
 |[],_,_=>List.nodup_nil
 |k::ks,h,b=>by
  simp only[H8,Yc,YL]at h
  simp only[IM,Yc]at b
  rw[YZ,List.nodup_cons]
  refine⟨fun hm=>?_,O5 a ks h.2 b.2⟩
  obtain⟨q,d,e⟩:=YX.1 hm
  have c:q≠k:=fun e'=>VS h.1 (e'▸d)
  grind
section
variable {P:Program} {f:FuncId} {os os':Nat} {ys:List AV} {bi:List Blk} {Θ:Cl} {γ:Type} {M:Option γ} {e:γ→AV} {bs:γ→List Blk} {C:Cx} {r:Ren} {xs:List AV} {x:AV} {y:γ}
theorem Xd{fx:List Nat}(co:COx C os' fx)(g:Gd C r):∀q k:Ad,BQ os' q=true→BQ os' k=true→q≠k→r.κ q≠r.κ k:=by
 intro q k m j l he
 rw[g.κ]at he
 rcases Gm m with e|⟨e,h⟩<;>rcases Gm j with f|⟨f,i⟩
 ·obtain⟨a,b⟩:=q
  obtain⟨c,d⟩:=k
  simp only at e f
  subst e;subst f
  rw[co.ok.own,co.ok.own]at he
  grind
 ·obtain⟨a,b⟩:=q
  obtain⟨c,d⟩:=k
  simp only at e f i
  subst e;subst f
  rw[co.ok.own]at he
  have:=co.ok.out d (by rw[co.O];exact i)
  grind
 ·obtain⟨a,b⟩:=q
  obtain⟨c,d⟩:=k
  simp only at e h f
  subst e;subst f
  rw[co.ok.own]at he
  have:=co.ok.out b (by rw[co.O];exact h)
  grind
 ·obtain⟨a,b⟩:=q
  obtain⟨c,d⟩:=k
  simp only at e h f i
  subst e;subst f
  have:=co.ok.inj b d (by rw[co.O];exact h) (by rw[co.O];exact i) he
  grind
theorem M1{fx:List Nat}(co:COx C os' fx)(g:Gd C r):∀(ks:List Ad),ks.all (BQ os')=true→IX (C.l+1) (ks.map r.κ)
 |[],_=>trivial
 |k::ks,h=>by
  simp only[IM,Yc]at h
  refine⟨?_,M1 co g ks h.2⟩
  rw[g.κ]
  obtain⟨a,b⟩:=k
  rcases Gm h.1 with c|⟨c,d⟩
  ·simp only at c;subst c;rw[co.ok.own];exact Yh _
  ·simp only at c d;subst c;exact Rt (co.ok.out b (by rw[co.O];exact d))
theorem Pm:∀(bi:List Blk) (i j:Nat),AI (D4 i bi) (0,i+j)=(bi[j]?).getD Fj
 |[],i,j=>by simp[D4,AI]
 |b::bi,i,0=>by simp[D4,AI,BM]
 |b::bi,i,j+1=>by
  have a:=Pm bi (i+1) j
  simp only[D4,AI]
  have:BM (0,i) (0,i+(j+1))=false:=by
   simp only[BM,GP]
   right
   cases h:Nat.beq i (i+(j+1))with
   |false=>rfl
   |true=>have:=Yd h;omega
  grind
theorem P2{g:Ren}{d:Hp}:∀(bi:List Blk) (a:List (Ad×Blk)) (i:Nat) (B:List Blk),(∀j,AI (D4 0 B) (0,i+j)=(bi[j]?).getD Fj)→BE g r i bi a→
  (∀p∈a,(d (r.κ p.1)).g=r.γ p.1+p.2.g∧(p.2.live=true→d (r.κ p.1)=AL r p.1 p.2))→JI d g (D4 0 B) i ((a.map (·.1)).map r.κ)
 |[],[],i,B,_,_,_=>trivial
 |b::bi,(k,c)::a,i,B,hB,h,f=>by
  have e:=hB 0
  simp only[FA,YH,DV]at e
  obtain⟨n,o,l⟩:=h
  refine⟨?_,P2 bi a (i+1) B (fun j=>?_) l fun p m=>f p (YP _ m)⟩
  ·rw[e]
   have q:=f _ (YT ..)
   grind
  ·have:=hB (j+1)
   grind
 |[],_::_,_,_,_,h,_=>h.elim
 |_::_,[],_,_,_,h,_=>h.elim
theorem ZwX{H:Hp}{k:Ad}:updH H k (H k)=H:=by
 funext q
 by_cases h:q=k
 ·subst h;exact AQ ..
 ·exact AJ _ _ h
theorem jv{g:Ren}{d:Hp}:∀(bi:List Blk) (a:List (Ad×Blk)) (i:Nat),BE g r i bi a→(∀b∈bi,b.live=true)→(∀p∈a,p.2.live=true→d (r.κ p.1)=AL r p.1 p.2)→DH d ((a.map (·.1)).map r.κ) (CR g i bi)=d
 |[],[],_,_,_,_=>rfl
 |b::bi,(k,c)::a,i,h,hl,f=>by
  obtain⟨l,q,m⟩:=h
  have e:=l (hl b (YT ..))
  have j:=f _ (YT ..) e.1
  simp only[YZ,DH,CR]
  rw[e.2,←j,ZwX]
  exact jv bi a (i+1) m (fun b n=>hl b (YP _ n)) fun p o=>f p (YP _ o)
 |[],_::_,_,h,_,_=>h.elim
 |_::_,[],_,h,_,_=>h.elim
theorem j7{j:Ren}:∀(d:List Blk) (f a:List (Ad×Blk)) (i:Nat) (g:Hp),BE j r i d a→(∀b∈d,b.live=true)→f.map (·.1)=a.map (·.1)→DH g ((f.map (·.1)).map r.κ) (CR j i d)=Dj r a g
 |[],[],[],_,_,_,_,_=>rfl
 |[],_::_,[],_,_,_,_,h=>by cases h
 |b::d,[],_::_,_,_,_,_,h=>by cases h
 |b::d,(k,c)::f,(q,o)::a,i,g,h,hl,he=>by
  obtain⟨l,p,m⟩:=h
  simp only[YZ,List.cons.injEq]at he
  obtain⟨rfl,he⟩:=he
  have e:=l (hl b (YT ..))
  simp only[YZ,DH,CR,Dj]
  rw[e.2]
  exact j7 d f a (i+1) _ m (fun b n=>hl b (YP _ n)) he
 |_::_,_,[],_,_,h,_,_=>h.elim
 |[],_,_::_,_,_,h,_,_=>h.elim
def rC(C:Cx)(r:Ren)(a:List (Ad×Blk))(θ:Nat→AV)(H:Hp):Ren:=Cj (C.l+1) ((a.map (·.1)).map r.κ) (Fg r a) θ H
def Th(Θ:Cl)(C:Cx)(r:Ren)(b c:List (Ad×Blk))(θ:Nat→AV):Prop:=
 ∀a,(∀p∈c,(a (r.κ p.1)).g=r.γ p.1+p.2.g∧(p.2.live=true→a (r.κ p.1)=AL r p.1 p.2))→(∀k:Ad,k.1≤C.l→¬r.no k→a k=r.H0 k)→Θ (fun k=>k∈(b.map (·.1)).map r.κ) (C.l+1) a θ
theorem B2(K:KO P f os ys bi Θ M e bs)(hy:M=some y){fx:List Nat}(co:COx C os' fx)(g:Gd C r)(a k:List (Ad×Blk))(θ:Nat→AV)(G:Th Θ C r a (a++k) θ)(l:∀H,BE (rC C r a θ H) r 0 bi a)(t:bs y=bi:=by rfl)(n:bi.all Blk.live=true:=by kernel_rfl)(i:(a++k).all (fun p=>p.2.live)=true:=by kernel_rfl)(F:∀H,Aq (rC C r a θ H) ys=Aq r xs:=by intro H;kernel_rfl)(u:∀H,ren (rC C r a θ H) (e y)=ren r x:=by intro H;kernel_rfl)
  (m:((a.map (·.1)).all (BQ os')&&H8 (a.map (·.1))&&Nat.beq a.length os)=true:=by kernel_rfl):Ih P C.l r f xs (a++k) x:=by
 intro d v D
 have s:∀b∈bi,b.live=true:=fun b E=>Yw.1 n b E
 have o:∀p∈a++k,p.2.live=true:=fun p c=>Yw.1 i p c
 have h:∀p∈a,p∈a++k:=fun p c=>JQ _ c
 simp only[Yc]at m
 have q:∀p∈a++k,(d (r.κ p.1)).g=r.γ p.1+p.2.g∧(p.2.live=true→d (r.κ p.1)=AL r p.1 p.2):=fun p c=>⟨by rw[v p c (o p c)];rfl,v p c⟩
 have:=K.k (C.l+1) d ((a.map (fun p:Ad×Blk=>p.1)).map r.κ) (Fg r a) θ (by rw[YE,YE];exact Yd m.2) (M1 co g _ m.1.1) (O5 (Xd co g) _ m.1.2 m.1.1)
  (P2 bi a 0 bi (fun j=>by have:=Pm bi 0 j;rwa [YN]at this⊢) (l d) fun p c=>q p (h p c)) (G d q D) y hy
 rw[←F d]
 refine this.mono fun z w ⟨A,B⟩=>⟨A.trans (u d),B.trans ?_⟩
 rw[t]
 exact jv bi a 0 (l d) s fun p c hl=>(q p (h p c)).2 hl
theorem Ej(K:KO P f os ys bi Θ M e bs)(hy:M=some y){fx:List Nat}(co:COx C os' fx)(g:Gd C r)(a m c:List (Ad×Blk))(θ:Nat→AV)(E:Th Θ C r a (a++m) θ)
  (n:∀H,BE (rC C r a θ H) r 0 bi a) (h:∀H,BE (rC C r a θ H) r 0 (bs y) c) (k:(bs y).all Blk.live=true:=by kernel_rfl) (D:∀H,Aq (rC C r a θ H) ys=Aq r xs:=by intro H;kernel_rfl) (s:∀H,ren (rC C r a θ H) (e y)=ren r x:=by intro H;kernel_rfl)
  (i:((a.map (·.1)).all (BQ os')&&H8 (a.map (·.1))&&Nat.beq a.length os)=true:=by kernel_rfl) (he:a.map (·.1)=c.map (·.1):=by rfl):Ic P C.l r f xs (a++m) x c []:=by
 have o:∀b∈bs y,b.live=true:=fun b B=>Yw.1 k b B
 have l:∀p∈a,p∈a++m:=fun p q=>JQ _ q
 refine ZAn rfl rfl fun d t A=>?_
 simp only[Yc]at i
 have:=K.k (C.l+1) d ((a.map (fun p:Ad×Blk=>p.1)).map r.κ) (Fg r a) θ (by rw[YE,YE];exact Yd i.2) (M1 co g _ i.1.1) (O5 (Xd co g) _ i.1.2 i.1.1)
  (P2 bi a 0 bi (fun j=>by have:=Pm bi 0 j;rwa [YN]at this⊢) (n d) fun p q=>t p (l p q)) (E d t A) y hy
 rw[←D d]
 exact this.mono fun z u ⟨v,w⟩=>⟨v.trans (s d),w.trans (j7 (bs y) a c 0 d (h d) o he)⟩
end
structure CloM (P:Program) (C:Cx) (i:Nat) (xs:List AV) {γ:Type} (M:Option γ) (e:γ→AV):Prop where
 k:∀y,M=some y→CH P C.l C.no C.H0 (C.θ i) xs (e y)
 x:∀r,Aq r xs=xs
 e:∀r y,ren r (e y)=e y
section
variable {os:Nat} {β γ:Type} [Inhabited γ]
theorem CloM.callF{P:Program}{i:Nat}{xs:List AV}{M:Option γ}{e:γ→AV}(E:Ev os β)(h:CloM P E.C i xs M e){y:γ}(hy:M=some y):Qc P E.E.l E.E.r i xs [] (e y):=
 ZzR (congrFun E.g.θ i) (by rw[E.hl,E.g.no,E.g.H];exact h.k y hy) (h.x _) (h.e _ _)
@[reducible] def cf(P:Program)(i:Nat)(xs:List AV)(M:Option γ)(e:γ→AV)(k:γ→PT os β):PT os β:=
 ⟨.call (e (M.getD default)) [] (k (M.getD default)).a,fun E=>Qc P E.l E.r i xs [] (e (M.getD default))∧(k (M.getD default)).q E,M.bind fun y=>(k y).m,fun E=>CloM P E.C i xs M e∧∀y,(k y).n E,fun E b y hm f=>by
  obtain⟨x,a,c⟩:=bind_some hm
  have d:M.getD default=x:=by rw[a];rfl
  rw[d]
  exact⟨b.1.callF E a,(k x).ok E (b.2 x) y c f⟩⟩
@[reducible] def cs(P:Program)(f:FuncId)(xs:List AV)(ks:List Ad)(b:List (Ad×Blk))(M:Option γ)(e:γ→AV)(k:γ→PT os β):PT os β:=
 ⟨.call (e (M.getD default)) ks (k (M.getD default)).a,fun E=>Ih P E.l E.r f xs b (e (M.getD default))∧(k (M.getD default)).q E,M.bind fun y=>(k y).m,fun E=>(∀y,M=some y→Ih P E.C.l E.E.r f xs b (e y))∧∀y,(k y).n E,fun E c y hm h=>by
  obtain⟨x,a,d⟩:=bind_some hm
  have g:M.getD default=x:=by rw[a];rfl
  rw[g]
  exact⟨by rw[E.hl];exact c.1 x a,(k x).ok E (c.2 x) y d h⟩⟩
@[reducible] def Dy(b:Bool)(P:Program)(f:FuncId)(xs:List AV)(ks:List Ad)(a:List (Ad×Blk))(M:Option γ)(e:γ→AV)(k:γ→PT os β):PT os β:=
 ⟨.call (e (M.getD default)) ks (k (M.getD default)).a,fun E=>(b=true→Ih P E.l E.r f xs a (e (M.getD default)))∧(k (M.getD default)).q E,if(b=true→M.isSome=true)then(k (M.getD default)).m else none,fun E=>(∀y,M=some y→Ih P E.C.l E.E.r f xs a (e y))∧∀y,(k y).n E,fun E d y hm i=>by
  obtain⟨g,hm⟩:=BU hm
  refine⟨fun a=>?_,(k _).ok E (d.2 _) y hm i⟩
  obtain⟨x,c⟩:=Fy.1 (g a)
  have h:M.getD default=x:=by rw[c];rfl
  rw[h,E.hl];exact d.1 x c⟩
@[reducible] def mv{α:Type}[Rw α](d q:Nat)(xs:List α)(k:PT os β)(a:Nat.ble (q+1) os=true:=by kernel_rfl):PT os β:=
 ⟨.mv d q k.a,fun E=>FK (Af Rw.e xs)∧(q<os∧E.r.no (E.r.κ (0,q)))∧k.q E,k.m,k.n,fun E c y hm b=>
  ⟨ZjX _ _,⟨Yi a,by rw[E.g.no,E.g.κ];exact E.co.W q (Yi a)⟩,k.ok E c y hm b⟩⟩
@[reducible] def mvc{α:Type}[Rw α](d q e i:Nat)(xs:List α)(k:PT os β)(a:Nat.ble (q+1) os=true:=by kernel_rfl):PT os β:=
 ⟨.mvc d q e i k.a,fun E=>FK (Af Rw.e xs)∧(q<os∧E.r.no (E.r.κ (0,q)))∧k.q E,k.m,k.n,fun E c y hm b=>
  ⟨ZjX _ _,⟨Yi a,by rw[E.g.no,E.g.κ];exact E.co.W q (Yi a)⟩,k.ok E c y hm b⟩⟩
end
section
variable {P:Program} {os os':Nat} {ys:List AV} {bi:List Blk} {Θ:Cl} {γ:Type} {M:Option γ} {e:γ→AV} {bs:γ→List Blk} {C:Cx} {r:Ren} {y:γ}
theorem DY{f:FuncId}(K:KO P f os ys bi Θ M e bs)(hy:M=some y){fx:List Nat}(co:COx C os' fx)(g:Gd C r)(c i:List (Ad×Blk)){w:List (Ad×Blk)}{v:Hp}(L:∀p∈w,(v (r.κ p.1)).g=r.γ p.1+p.2.g∧(p.2.live=true→v (r.κ p.1)=AL r p.1 p.2))(u:∀p∈c,p∈w)
  {G d:List AV} (θ:Nat→AV) (Q:∀l' a,Θ (fun k=>k∈(c.map (·.1)).map r.κ) l' a θ) (o:∀l H,BE (Cj l ((c.map (·.1)).map r.κ) (Fg r c) θ H) r 0 bi c) (B:bs y=bi:=by rfl) (t:bi.all Blk.live=true:=by kernel_rfl)
  (O:∀l H,Aq (Cj l ((c.map (·.1)).map r.κ) (Fg r c) θ H) ys=G++d:=by intro l H;kernel_rfl) (D:∀l H,ren (Cj l ((c.map (·.1)).map r.κ) (Fg r c) θ H) (e y)=e y:=by intro l H;kernel_rfl)
  (F:(((c++i).map (·.1)).all (BQ os')&&H8 ((c++i).map (·.1))&&Nat.beq c.length os)=true:=by kernel_rfl):CH P (C.l+1) (fun k=>k∈(i.map (·.1)).map r.κ) v (.fn (.func f) [] d) G (e y):=by
 have A:∀b∈bi,b.live=true:=fun b w=>Yw.1 t b w
 refine⟨f,[],d,rfl,fun l' a hl N=>?_⟩
 simp only[Yc,Eh,List.all_append]at F
 obtain⟨⟨⟨E,S⟩,T⟩,U⟩:=F
 have m:=O5 (Xd co g) _ T (by rw[List.all_append,E,S];rfl)
 rw[Eh,List.nodup_append]at m
 have x:∀p∈c,a (r.κ p.1)=v (r.κ p.1):=fun p n=>by
  have hm:r.κ p.1∈(c.map (·.1)).map r.κ:=N5 (N5 n)
  exact N _ (VP (M1 co g _ E) _ hm) fun h=>m.2.2 _ hm _ h rfl
 have q:∀p∈c,(a (r.κ p.1)).g=r.γ p.1+p.2.g∧(p.2.live=true→a (r.κ p.1)=AL r p.1 p.2):=fun p n=>by rw[x p n];exact L p (u p n)
 have s:IX l' ((c.map (·.1)).map r.κ):=by
  have:=M1 co g (c.map (·.1)) E
  generalize (c.map (·.1)).map r.κ=ks at this
  induction ks with
  |nil=>trivial
  |cons k ks R=>exact⟨CY this.1 hl,R this.2⟩
 have:=K.k l' a ((c.map (fun p:Ad×Blk=>p.1)).map r.κ) (Fg r c) θ (by rw[YE,YE];exact Yd U) s m.1
  (P2 bi c 0 bi (fun j=>by have:=Pm bi 0 j;rwa [YN]at this⊢) (o l' a) q) (Q l' a) y hy
 rw[Hu,←O l' a]
 refine this.mono fun z V ⟨I,J⟩=>⟨I.trans (D l' a),J.trans ?_⟩
 rw[B]
 exact jv bi c 0 (o l' a) A fun p n hl=>(q p n).2 hl
end
theorem MU{C:Cx}{r:Ren}{os':Nat}{P:Program}{i:Nat}{xs:List AV}{y:AV}{fx:List Nat}(co:COx C os' fx)(g:Gd C r)(m:List (Ad×Blk)){l:Hp}(p:∀k:Ad,k.1≤C.l→¬r.no k→l k=r.H0 k)(h:CH P C.l C.no C.H0 (C.θ i) xs y)
  (o:((m.map (·.1)).all (BQ os'))=true:=by kernel_rfl):CH P (C.l+1) (fun k=>k∈(m.map (·.1)).map r.κ) l (r.θ i) xs y:=by
 rw[g.θ]
 refine ZLV h (Nat.le_succ _) (fun q f d hm=>?_) fun q f d=>?_
 ·obtain⟨k,j,e⟩:=YX.1 hm
  rw[g.κ]at e
  obtain⟨a,b⟩:=k
  rcases Gm (Yw.1 o _ j)with c|⟨c,n⟩
  ·simp only at c;subst c;rw[co.ok.own]at e;rw[←e]at f;simp only at f;omega
  ·simp only at c n;subst c;rw[←e]at d;exact d (co.W b n)
 ·rw[←g.H];exact p q f (by rw[g.no];exact d)
theorem Bz{r b:Ren}{k k':Ad}{g a:Nat}{e:EK}{sz:Nat}{cs:List AV}(h:Gq cs)(c:r.γ k+g=b.γ k'+a):AL r k ⟨g,true,e,sz,cs⟩=AL b k' ⟨a,true,e,sz,cs⟩:=by
 simp only[AL,HV h,c]
section
variable {P:Program} {T:Nat→Option TI} {n:Nat} {C:Cx} {τ:St} {Q:Exit→St→Prop} {os k:Nat} {c:Code} {β:Type} {L:β→Prop} {y:β}
theorem BK{fx:List Nat}(co:COx C os fx)(o:Bg P T)(m:Nat)(v:PT os β)(lf:Lf)(s:v.m=some y)(j:HL L y)(p:∀r (g:Gd C r),v.n ⟨⟨C.l,r,fun _ τ'=>LO P n C c (k+m) τ' Q,fun _ _=>False⟩,L,C,_,co,g,rfl⟩)
  (q:∀l r Q b,Br r os v.a τ (fun τ a=>G5 P T l n r ((Cq c).toList.map (·.dst)) (Jo m (Jp k (Cq c).toList)) [] a (fun τ' env d=>Br r os d (Et env τ') (fun τ _=>FT fx lf τ (Q .normal))) τ)=v.q ⟨l,r,Q,b⟩:=by intro l r Q P;kernel_rfl):LO P n C c k τ Q:=
 ZPr co.ok o co.O co.F m v.a lf (fun r Φ=>v.q ⟨C.l,r,fun _=>Φ,fun _ _=>False⟩) (fun r Φ=>q _ r (fun _=>Φ) _) fun r e f h i=>v.ok _ (p r ⟨e,f,h,i⟩) y s j
theorem Bf{fx:List Nat}(co:COx C os fx)(m:Bg P T)(v:PT os β)(lf:Lf)(q:v.m=some y)(j:HL L y)(o:∀r (g:Gd C r),v.n ⟨⟨C.l,r,Q,fun _ _=>False⟩,L,C,_,co,g,rfl⟩)
  (p:∀l r Q b,Br r os v.a τ (fun τ a=>G5 P T l n r ((Cq c).toList.map (·.dst)) (Jp k (Cq c).toList) [] a (fun τ' env d=>Br r os d (Et env τ') (fun τ _=>FT fx lf τ (Q .normal))) τ)=v.q ⟨l,r,Q,b⟩:=by intro l r Q P;kernel_rfl):LO P n C c k τ Q:=
 ZPQ co.ok m co.O co.F v.a lf (fun r Q=>v.q ⟨C.l,r,Q,fun _ _=>False⟩) (fun r Q=>p _ r Q _) fun r e f h i=>v.ok _ (o r ⟨e,f,h,i⟩) y q j
theorem Ig{γ:Type}{M:Option γ}{kk:γ→Option β}{ss:List (Nat×AV)}{hs:List (Ad×Blk)}{fx:List Nat}(co:COx C os fx)(hm:M.bind kk=some y)(f:FuncId)(xs:List AV)(ks:List Ad)(b:List (Ad×Blk))(e:γ→AV)(Ax:γ→List (Ad×Blk))(fl:List Ad)
  (l:∀z,Fv C (Ax z)) (d:Jz (AI hs) fl) (a:∀z,M=some z→∀r,Gd C r→Ic P C.l r f xs b (e z) (Ax z) [])
  (h:∀z,kk z=some y→LO P n C c (k+1) (Ab (G9 (FO c k) (e z) (El [] ss)) (Ax z++C3 ((Ax z).map (·.1)) [] fl hs)) Q)
  (j:GV c k=some (FO c k,callF c k,GY c k):=by kernel_rfl) (v:ev (AP ss) (callF c k)=.fn (.func f) [] []:=by kernel_rfl) (m:[]++(GY c k).map (ev (AP ss))++[]=xs:=by kernel_rfl) (g:(ks.map fun k=>(k,AI hs k))=b:=by kernel_rfl)
  (i:∀z,(DN os (Ax z)&&LQ [] (Ax z)&&MX [] fx&&If hs&&Nm n (FO c k)&&ks.all (BQ os))=true:=by intro z;kernel_rfl):LO P n C c k (Ab ss hs) Q:=by
 obtain⟨z,o,p⟩:=bind_some hm
 exact ZpT co.ok co.O co.F f [] [] xs j v m ks b g (e z) (Ax z) [] fl (i z) (l z) d (fun r q s t u=>a z o r ⟨q,s,t,u⟩) (h z p)
theorem c6{γ:Type}{M:Option γ}{kk:γ→Option β}{ss:List (Nat×AV)}{hs:List (Ad×Blk)}{f:FuncId}{os':Nat}{ys:List AV}{bi:List Blk}{Θ:Cl}{e0:γ→AV}{bs:γ→List Blk}{fx:List Nat}(co:COx C os fx)(hm:M.bind kk=some y)(K:KO P f os' ys bi Θ M e0 bs)
  (a b:List (Ad×Blk)) (e:γ→AV) (Ax:γ→List (Ad×Blk)) (fl:List Ad)
  (h:∀z,kk z=some y→LO P n C c (k+1) (Ab (G9 (FO c k) (e z) (El [] ss)) (Ax z++C3 ((Ax z).map (·.1)) [] fl hs)) Q)
  (θ:Ren→Nat→AV:=fun _=>AP []) (A:∀r,Gd C r→Th Θ C r a (a++b) (θ r):=by intro r g;exact fun _ _ _=>trivial) (xs:List AV:=[]++(GY c k).map (ev (AP ss))++[])
  (q:∀z,Fv C (Ax z):=by intro z;repeat(first|exact trivial|refine⟨COx.W ‹_› _ (by decide),?_⟩))
  (j:Jz (AI hs) fl:=by repeat(first|exact trivial|refine⟨A6 _ _,?_⟩))
  (i:∀r H,BE (rC C r a (θ r) H) r 0 bi a:=by
   intro r H
   repeat(first|exact trivial|refine⟨fun _=>⟨rfl,Bz (A6 _ _) (by kernel_rfl)⟩,by kernel_rfl,?_⟩|refine⟨fun _=>⟨rfl,Bz Nw (by kernel_rfl)⟩,by kernel_rfl,?_⟩|refine⟨fun _=>⟨rfl,by kernel_rfl⟩,by kernel_rfl,?_⟩|refine⟨(fun h=>nomatch h),by kernel_rfl,?_⟩))
  (d:∀z r H,BE (rC C r a (θ r) H) r 0 (bs z) (Ax z):=by
   intro z r H
   repeat(first|exact trivial|refine⟨fun _=>⟨rfl,Bz (A6 _ _) (by kernel_rfl)⟩,by kernel_rfl,?_⟩|refine⟨fun _=>⟨rfl,Bz Nw (by kernel_rfl)⟩,by kernel_rfl,?_⟩|refine⟨fun _=>⟨rfl,by kernel_rfl⟩,by kernel_rfl,?_⟩))
  (w:∀r H,Aq (rC C r a (θ r) H) ys=Aq r xs:=by intro r H;kernel_rfl) (s:[]++(GY c k).map (ev (AP ss))++[]=xs:=by kernel_rfl) (t:∀z r H,ren (rC C r a (θ r) H) (e0 z)=ren r (e z):=by intro z r H;kernel_rfl)
  (p:GV c k=some (FO c k,callF c k,GY c k):=by kernel_rfl) (u:ev (AP ss) (callF c k)=.fn (.func f) [] []:=by kernel_rfl)
  (l:(((a++b).map (·.1)).map fun k=>(k,AI hs k))=a++b:=by kernel_rfl) (m:∀z,(bs z).all Blk.live=true:=by intro z;kernel_rfl) (he:∀z,a.map (·.1)=(Ax z).map (·.1):=by intro z;rfl)
  (v:((a.map (·.1)).all (BQ os)&&H8 (a.map (·.1))&&Nat.beq a.length os')=true:=by kernel_rfl)
  (o:∀z,(DN os (Ax z)&&LQ [] (Ax z)&&MX [] fx&&If hs&&Nm n (FO c k)&&((a++b).map (·.1)).all (BQ os))=true:=by intro z;kernel_rfl):LO P n C c k (Ab ss hs) Q:=
 Ig co hm f xs _ (a++b) e Ax fl q j (fun z x r g=>Ej K x co g a b (Ax z) (θ r) (A r g) (fun H=>i r H) (fun H=>d z r H) (m z) (fun H=>w r H) (fun H=>t z r H) v (he z)) h p u s l o
theorem F1{fx:List Nat}(co:COx C os fx)(v:PT os β)(lf:Lf)(k:v.m=some y)(h:HL L y)(i:∀r (g:Gd C r),v.n ⟨⟨C.l,r,fun _ τ'=>LW P n C c τ' Q,fun _ _=>False⟩,L,C,_,co,g,rfl⟩)
  (j:∀l r Q a,Br r os v.a τ (fun τ _=>FT fx lf τ (Q .normal))=v.q ⟨l,r,Q,a⟩:=by intro l r Q P;kernel_rfl):LW P n C c τ Q:=
 ZJW co.ok co.O co.F v.a lf (fun r Φ=>v.q ⟨C.l,r,fun _=>Φ,fun _ _=>False⟩) (fun r Φ=>j _ r (fun _=>Φ) _) fun r b d e f=>v.ok _ (i r ⟨b,d,e,f⟩) y k h
theorem rg{c:Code}(h:LO P n C c 0 τ Q)(hs:yU c=true:=by kernel_rfl):LW P n C c τ Q:=ZqZ hs h
end
end Go.Eng
