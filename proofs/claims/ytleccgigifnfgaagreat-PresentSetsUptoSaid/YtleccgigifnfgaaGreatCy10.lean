import Derived.Test.YtleccgigifnfgaaGreatCy09
import Derived.Test.YtleccgigifnfgaaGreatCy00
namespace Go.Eng
set_option linter.all false
open Go Go.RowKit
abbrev vL{α:Type}(e:α→List D)(xs:List α):AV:=.d (.list (xs.map e))
abbrev vS(s:ByteArray):AV:=.d (.str s)
abbrev vI(x:Int):AV:=.d (.int .i64 x)
abbrev vN(x:Nat):AV:=.d (.int .i64 (x:Int))
abbrev vB(x:Bool):AV:=.d (.bool x)
abbrev nl:Lf:=⟨[],[],[],[]⟩
abbrev AO(ls:List Nat):Lf:=⟨ls,[],[],[]⟩
abbrev Af(ls:List Nat)(ks:List (Ac×Bool)):Lf:=⟨ls,ks,[],[]⟩
class Rw (α:Type) where
 e:α→List D
 f:α→List D
 z:α
 s:Nat
 len:∀x,(e x).length=s
 ef:∀x,e x=f x
 s0:s≠0
instance:Rw ByteArray:=⟨Az,Az,⟨#[]⟩,1,fun _=>rfl,fun _=>rfl,by decide⟩
instance:Rw Bool:=⟨AP,AP,false,1,fun _=>rfl,fun _=>rfl,by decide⟩
instance:Rw Raw:=⟨As,As,ZS4,4,fun _=>rfl,fun _=>rfl,by decide⟩
instance:Rw Val:=⟨Ap,Ai,JZ,7,fun _=>by rw[Gu];rfl,Gu,by decide⟩
instance:Rw Pr:=⟨Aq,GS,zPr,14,fun _=>by rw[KY];rfl,KY,by decide⟩
instance:Rw Slt:=⟨Ag,Cb,ZSy,8,fun _=>by rw[Hy];rfl,Hy,by decide⟩
instance:Rw Nt:=⟨Ay,Ay,zNt,8,fun _=>rfl,fun _=>rfl,by decide⟩
instance:Rw Fld:=⟨Ar,Ar,ZSI,16,fun _=>rfl,fun _=>rfl,by decide⟩
instance:Rw Spn:=⟨AR,AR,ZS2,2,fun _=>rfl,fun _=>rfl,by decide⟩
instance:Rw Msg:=⟨AH,AH,ZSF,5,fun _=>rfl,fun _=>rfl,by decide⟩
instance:Rw Itm:=⟨Ca,Ca,ZS7,3,fun _=>rfl,fun _=>rfl,by decide⟩
instance:Rw Enm:=⟨AQ,AQ,ZTo,5,fun _=>rfl,fun _=>rfl,by decide⟩
instance:Rw Mth:=⟨FX,FX,ZS1,5,fun _=>rfl,fun _=>rfl,by decide⟩
instance:Rw Svc:=⟨AX,AX,ZSZ,3,fun _=>rfl,fun _=>rfl,by decide⟩
instance:Rw Prb:=⟨Ax,Ax,ZSp,3,fun _=>rfl,fun _=>rfl,by decide⟩
inductive Lv (σ ξ ρ:Type) where
 |nx (v:σ)
 |ex (b:ξ)
 |rt (y:ρ)
structure En where
 l:Nat
 r:Ren
 Q:Exit→St→Prop
 P:AV→List Blk→Prop
structure Gd (C:Cx) (r:Ren):Prop where
 θ:r.θ=C.θ
 H:r.H0=C.H0
 κ:r.κ=C.κ
 no:r.no=C.no
structure COx (C:Cx) (os:Nat) (fx:List Nat):Prop where
 ok:CxOk C
 O:C.outs=os
 F:C.fx=fx
 W:∀q,q<os→C.no (C.κ (0,q))
abbrev CO(C:Cx)(os:Nat):Prop:=COx C os (HQ os)
def HL{β:Type}(L:β→Prop)(y:β):Prop:=L y
structure Ev (os:Nat) (β:Type) where
 E:En
 L:β→Prop
 C:Cx
 fx:List Nat
 co:COx C os fx
 g:Gd C E.r
 hl:E.l=C.l
structure PT (os:Nat) (β:Type) where
 a:AT
 q:En→Prop
 m:Option β
 n:Ev os β→Prop
 ok:∀E:Ev os β,n E→∀y,m=some y→HL E.L y→q E.E
section
variable {os:Nat} {β:Type}
structure Sp where
 w:AT→AT
 p:En→Prop
 c:Prop
 d:Decidable c
 ok:c→∀E,p E
structure Sz where
 w:AT→AT
 p:En→Prop
 ok:∀E,p E
theorem BD{c:Prop}[d:Decidable c]{m:Option β}{y:β}(h:(if c then m else none)=some y):c∧m=some y:=by
 grind
theorem bind_some{γ:Type}{m:Option γ}{k:γ→Option β}{y:β}(h:m.bind k=some y):∃x,m=some x∧k x=some y:=by
 cases m with
 |none=>cases h
 |some x=>exact⟨x,rfl,h⟩
@[reducible] def vs(s:Sp)(k:PT os β):PT os β:=⟨s.w k.a,fun E=>s.p E∧k.q E,@ite _ s.c s.d k.m none,k.n,fun E d y hm c=>by
 obtain⟨a,b⟩:=@BD _ _ s.d _ _ hm
 exact⟨s.ok a E.E,k.ok E d y b c⟩⟩
@[reducible] def vg(b:Bool)(s:Sp)(k:PT os β):PT os β:=⟨s.w k.a,fun E=>(b=true→s.p E)∧k.q E,@ite _ (b=true→s.c) (@instDecidableForall _ _ _ s.d) k.m none,k.n,fun E f y hm d=>by
 obtain⟨a,c⟩:=@BD _ _ (@instDecidableForall _ _ _ s.d) _ _ hm
 exact⟨fun e=>s.ok (a e) E.E,k.ok E f y c d⟩⟩
@[reducible] def vz(s:Sz)(k:PT os β):PT os β:=⟨s.w k.a,fun E=>s.p E∧k.q E,k.m,k.n,fun E b y hm a=>⟨s.ok E.E,k.ok E b y hm a⟩⟩
@[reducible] def vy(b:Bool)(s:Sz)(k:PT os β):PT os β:=⟨s.w k.a,fun E=>(b=true→s.p E)∧k.q E,k.m,k.n,fun E c y hm a=>⟨fun _=>s.ok E.E,k.ok E c y hm a⟩⟩
@[reducible] def v2(s:Sp)(b c:En→Prop)(h:s.c→∀E,b E∧c E)(k:PT os β):PT os β:=⟨s.w k.a,fun E=>b E∧c E∧k.q E,@ite _ s.c s.d k.m none,k.n,fun E f y hm e=>by
 obtain⟨a,d⟩:=@BD _ _ s.d _ _ hm
 exact⟨(h a E.E).1,(h a E.E).2,k.ok E f y d e⟩⟩
@[reducible] def vw(w:AT→AT)(k:PT os β):PT os β:=⟨w k.a,k.q,k.m,k.n,k.ok⟩
@[reducible] def br(b:Bool)(t f:PT os β):PT os β:=⟨.br t.a f.a,fun E=>(b=true→t.q E)∧(b=false→f.q E),if b=true then t.m else f.m,fun E=>t.n E∧f.n E,fun E c y hm a=>
 ⟨fun e=>t.ok E c.1 y (by rw[Ys e]at hm;exact hm) a,fun e=>f.ok E c.2 y (by rw[Yr (by rw[e];decide)]at hm;exact hm) a⟩⟩
@[reducible] def bT(b:Bool)(t:PT os β):PT os β:=⟨.one true t.a,fun E=>(b=true→t.q E)∧(b=false→False),if b=true then t.m else none,t.n,fun E c y hm a=>by
 obtain⟨h,hm⟩:=BD hm
 exact⟨fun _=>t.ok E c y hm a,fun e=>absurd (h.symm.trans e) (by decide)⟩⟩
@[reducible] def bF(b:Bool)(f:PT os β):PT os β:=⟨.one false f.a,fun E=>(b=true→False)∧(b=false→f.q E),if b=false then f.m else none,f.n,fun E c y hm a=>by
 obtain⟨h,hm⟩:=BD hm
 exact⟨fun e=>absurd (e.symm.trans h) (by decide),fun _=>f.ok E c y hm a⟩⟩
@[reducible] def al{α:Type}(e:α→List D)(xs:List α)(neg:Bool)(k:Bool→PT os β):PT os β:=⟨(k neg).a,fun E=>∀b:Bool,(xs.map e≠[]→b=neg)→(k b).q E,(k neg).m,
 fun E=>(∀b,(k b).n E)∧∀b,xs=[]→(k b).m=(k neg).m,fun E a y hm c b f=>by
  by_cases h:xs=[]
  ·exact(k b).ok E (a.1 b) y ((a.2 b h).trans hm) c
  ·have:b=neg:=f (by intro d;exact h (UP.1 d))
   subst this
   exact(k b).ok E (a.1 b) y hm c⟩
@[reducible] def dd:PT os β:=⟨.nil,fun _=>False,none,fun _=>True,fun _ _ _ h _=>by cases h⟩
@[reducible] def lf(p:En→Prop)(y:β):PT os β:=⟨.nil,p,some y,fun E=>HL E.L y→p E.E,fun E b z hm a=>b (by cases hm;exact a)⟩
@[reducible] def lc(s:St)(m:Option β):PT os β:=⟨.nil,fun E=>E.Q .normal s,m,fun E=>∀y,m=some y→HL E.L y→E.E.Q .normal s,fun E b y hm a=>b y hm a⟩
@[reducible] def DK(c:Prop)[Decidable c](p:En→Prop)(y:β):PT os β:=⟨.nil,p,if c then some y else none,fun E=>c→HL E.L y→p E.E,fun E d z hm b=>by
 obtain⟨a,hm⟩:=BD hm
 cases hm
 exact d a b⟩
@[reducible] def lr(er:β→AV)(bs:β→List Blk)(y:β):PT os β:=lf (fun E=>E.P (er y) (bs y)) y
section
variable {σ ξ ρ:Type}
@[reducible] def Au(er:ρ→AV)(bs:ρ→List Blk)(y:ρ):PT os (Lv σ ξ ρ):=lf (fun E=>E.P (er y) (bs y)) (.rt y)
@[reducible] def ln(S:σ→St)(v:σ):PT os (Lv σ ξ ρ):=lf (fun E=>E.Q .normal (S v)) (.nx v)
@[reducible] def Ak(X:ξ→Nat×St)(b:ξ):PT os (Lv σ ξ ρ):=lf (fun E=>E.Q (.exit (X b).1) (X b).2) (.ex b)
end
section
variable {α:Type} [Rw α]
@[reducible] def ix(xs:List α)(i:Nat)(k:α→PT os β):PT os β:=
 ⟨.ds (Rw.f (xs.getD i Rw.z)) (k (xs.getD i Rw.z)).a,fun E=>HP (xs.map Rw.e) ((i:Nat):Int) (Rw.f (xs.getD i Rw.z))∧(k (xs.getD i Rw.z)).q E,xs[i]?.bind fun x=>(k x).m,fun E=>∀x,(k x).n E,fun E d y hm c=>by
  obtain⟨x,a,b⟩:=bind_some hm
  have e:xs.getD i Rw.z=x:=by rw[YG,a];rfl
  rw[e]
  exact⟨xH a Rw.ef,(k x).ok E (d x) y b c⟩⟩
@[reducible] def B1(xs:List α)(i:Int)(k:α→PT os β):PT os β:=
 ⟨.ds (Rw.f (xs.getD i.toNat Rw.z)) (k (xs.getD i.toNat Rw.z)).a,fun E=>HP (xs.map Rw.e) i (Rw.f (xs.getD i.toNat Rw.z))∧(k (xs.getD i.toNat Rw.z)).q E,if 0≤i then xs[i.toNat]?.bind fun x=>(k x).m else none,fun E=>∀x,(k x).n E,fun E g y hm d=>by
  obtain⟨b,hm⟩:=BD hm
  obtain⟨x,a,c⟩:=bind_some hm
  have e:xs.getD i.toNat Rw.z=x:=by rw[YG,a];rfl
  have f:=(Yn.1 a).1
  exact⟨wP b (by omega) Rw.ef,by rw[e];exact(k x).ok E (g x) y c d⟩⟩
@[reducible] def A9(b:Bool)(xs:List α)(i:Int)(k:α→PT os β):PT os β:=
 ⟨.ds (Rw.f (xs.getD i.toNat Rw.z)) (k (xs.getD i.toNat Rw.z)).a,fun E=>(b=true→HP (xs.map Rw.e) i (Rw.f (xs.getD i.toNat Rw.z)))∧(k (xs.getD i.toNat Rw.z)).q E,if(b=true→0≤i∧i<xs.length)then(k (xs.getD i.toNat Rw.z)).m else none,fun E=>∀x,(k x).n E,fun E d y hm c=>by
  obtain⟨a,hm⟩:=BD hm
  exact⟨fun e=>wP (a e).1 (a e).2 Rw.ef,(k _).ok E (d _) y hm c⟩⟩
@[reducible] def ca(xs:List α)(j:Nat)(k:α→PT os β):PT os β:=
 ⟨.cs ((Rw.f (xs.getD j Rw.z)).map .d) (k (xs.getD j Rw.z)).a,fun E=>DB (Ae Rw.e xs) (j*Rw.s α) ((Rw.f (xs.getD j Rw.z)).map .d)∧(k (xs.getD j Rw.z)).q E,xs[j]?.bind fun x=>(k x).m,fun E=>∀x,(k x).n E,fun E d y hm c=>by
  obtain⟨x,a,b⟩:=bind_some hm
  have e:xs.getD j Rw.z=x:=by rw[YG,a];rfl
  rw[e]
  exact⟨Zou a Rw.len Rw.ef,(k x).ok E (d x) y b c⟩⟩
theorem ZQe{xs:List α}{j o m:Nat}(a:Nat.ble (o+m) (Rw.s α)=true)(h:j<xs.length):DB (Ae Rw.e xs) (j*Rw.s α+o) ((((Rw.f (xs.getD j Rw.z)).map AV.d).drop o).take m):=by
 have hl:((Rw.f (xs.getD j Rw.z)).map AV.d).length=Rw.s α:=by rw[YL,←Rw.ef,Rw.len]
 have a:=Yo a
 exact Zku h Rw.len Rw.ef (by rw[YF,Y2,hl,G8 (by omega)]) (by rw[YF,Y2,hl];omega)
@[reducible] def cp(xs:List α)(j o m:Nat)(k:α→PT os β)(f:Nat.ble (o+m) (Rw.s α)=true:=by kernel_rfl):PT os β:=
 ⟨.cs ((((Rw.f (xs.getD j Rw.z)).map AV.d).drop o).take m) (k (xs.getD j Rw.z)).a,fun E=>DB (Ae Rw.e xs) (j*Rw.s α+o) ((((Rw.f (xs.getD j Rw.z)).map AV.d).drop o).take m)∧(k (xs.getD j Rw.z)).q E,xs[j]?.bind fun x=>(k x).m,fun E=>∀x,(k x).n E,fun E d y hm c=>by
  obtain⟨x,a,b⟩:=bind_some hm
  have e:xs.getD j Rw.z=x:=by rw[YG,a];rfl
  exact⟨ZQe f (Yn.1 a).1,by rw[e];exact(k x).ok E (d x) y b c⟩⟩
@[reducible] def zG(b:Bool)(xs:List α)(j:Nat)(k:α→PT os β):PT os β:=
 ⟨.cs ((Rw.f (xs.getD j Rw.z)).map .d) (k (xs.getD j Rw.z)).a,fun E=>(b=true→DB (Ae Rw.e xs) (j*Rw.s α) ((Rw.f (xs.getD j Rw.z)).map .d))∧(k (xs.getD j Rw.z)).q E,if(b=true→j<xs.length)then(k (xs.getD j Rw.z)).m else none,fun E=>∀x,(k x).n E,fun E d y hm c=>by
  obtain⟨a,hm⟩:=BD hm
  exact⟨fun e=>vh (a e) Rw.len Rw.ef,(k _).ok E (d _) y hm c⟩⟩
@[reducible] def st(xs:List α)(j:Nat)(y:α):Sp:=⟨.cs (Ae Rw.e (xs.set j y)),fun _=>G4 (Ae Rw.e xs) (j*Rw.s α) ((Rw.f y).map .d) (Ae Rw.e (xs.set j y)),j<xs.length,inferInstance,fun h _=>Zya h Rw.len Rw.ef⟩
@[reducible] def Ah(xs:List α):Sz:=⟨.num ((xs.length:Nat):Int),fun _=>Bs ((xs.map (Rw.e (α:=α))).length:Nat) ((xs.length:Nat):Int),fun _=>ZGL _ _⟩
@[reducible] def fl(xs:List α):Sz:=⟨id,fun _=>Fo (Ae Rw.e xs),fun _=>AW _ _⟩
@[reducible] def fr(xs:List α):Sz:=⟨.av (.d (.list (xs.map Rw.e))),fun _=>G1 (Ae Rw.e xs) 0 xs.length (Rw.s α) (xs.map Rw.e),fun _=>xV _ Rw.s0 Rw.len⟩
@[reducible] def ap(xs:List α)(y:α)(k:PT os β):PT os β:=⟨.nat 1 (.cs (Ae Rw.e [y]) (.cs (Ae Rw.e (xs++[y])) (.nat (xs++[y]).length k.a))),
 fun E=>D4 (Rw.s α) [] (.d (.list [Rw.f y])) 1 (Ae Rw.e [y])∧IK (Ae Rw.e xs) 0 xs.length 1 (Rw.s α) 256 (Ae Rw.e [y]) (Ae Rw.e (xs++[y])) (xs++[y]).length∧k.q E,
 if xs.length<549755813887 then k.m else none,k.n,fun E b z hm a=>by
  obtain⟨c,hm⟩:=BD hm
  exact⟨wt _ Rw.len Rw.ef,Re xs [y] Rw.len rfl rfl (by rw[List.length_singleton];omega),k.ok E b z hm a⟩⟩
@[reducible] def aq(xs ys:List α)(k:PT os β):PT os β:=⟨.nat ys.length (.cs (Ae Rw.e ys) (.cs (Ae Rw.e (xs++ys)) (.nat (xs++ys).length k.a))),
 fun E=>D4 (Rw.s α) [] (.d (.list (ys.map Rw.e))) ys.length (Ae Rw.e ys)∧IK (Ae Rw.e xs) 0 xs.length ys.length (Rw.s α) 256 (Ae Rw.e ys) (Ae Rw.e (xs++ys)) (xs++ys).length∧k.q E,
 if xs.length+ys.length<549755813888 then k.m else none,k.n,fun E b z hm a=>by
  obtain⟨c,hm⟩:=BD hm
  exact⟨di _ _ Rw.len,Re xs ys Rw.len rfl rfl (by omega),k.ok E b z hm a⟩⟩
@[reducible] def ar(xs ys:List α)(c:Ac)(g:Nat)(k:PT os β):PT os β:=⟨.nat ys.length (.cs (Ae Rw.e ys) (.cs (Ae Rw.e (xs++ys)) (.nat (xs++ys).length k.a))),
 fun E=>D4 (Rw.s α) (Ae Rw.e ys) (.ref c g 0 ys.length) ys.length (Ae Rw.e ys)∧IK (Ae Rw.e xs) 0 xs.length ys.length (Rw.s α) 256 (Ae Rw.e ys) (Ae Rw.e (xs++ys)) (xs++ys).length∧k.q E,
 if xs.length+ys.length<549755813888 then k.m else none,k.n,fun E b z hm a=>by
  obtain⟨d,hm⟩:=BD hm
  exact⟨Zwr _ _ _ Rw.len,Re xs ys Rw.len rfl rfl (by omega),k.ok E b z hm a⟩⟩
@[reducible] def a1(y:α)(k:PT os β):PT os β:=⟨.nat 1 (.cs (Ae Rw.e [y]) k.a),fun E=>D4 (Rw.s α) [] (.d (.list [Rw.f y])) 1 (Ae Rw.e [y])∧MQ 1 256∧k.q E,k.m,k.n,fun E b z hm a=>⟨wt _ Rw.len Rw.ef,by unfold MQ;decide,k.ok E b z hm a⟩⟩
@[reducible] def a0(ys:List α)(k:PT os β):PT os β:=⟨.nat ys.length (.cs (Ae Rw.e ys) k.a),fun E=>D4 (Rw.s α) [] (.d (.list (ys.map Rw.e))) ys.length (Ae Rw.e ys)∧MQ ys.length 256∧k.q E,if ys.length<549755813888 then k.m else none,k.n,fun E b z hm a=>by
  obtain⟨c,hm⟩:=BD hm
  exact⟨di _ _ Rw.len,by unfold MQ;omega,k.ok E b z hm a⟩⟩
@[reducible] def kR(xs:List α)(y z:α)(k:PT os β):PT os β:=⟨.nat 2 (.cs (Ae Rw.e [y,z]) (.cs (Ae Rw.e (xs++[y,z])) (.nat (xs++[y,z]).length k.a))),
 fun E=>D4 (Rw.s α) [] (.d (.list [Rw.f y,Rw.f z])) 2 (Ae Rw.e [y,z])∧IK (Ae Rw.e xs) 0 xs.length 2 (Rw.s α) 256 (Ae Rw.e [y,z]) (Ae Rw.e (xs++[y,z])) (xs++[y,z]).length∧k.q E,
 if xs.length<549755813886 then k.m else none,k.n,fun E b w hm a=>by
  obtain⟨c,hm⟩:=BD hm
  refine⟨?_,Re xs [y,z] Rw.len rfl rfl (by simp only[Db,Fh];omega),k.ok E b w hm a⟩
  have:=di (sz:=Rw.s α) (e:=Rw.e) ([]:List AV) [y,z] Rw.len
  rw[←Rw.ef,←Rw.ef];exact this⟩
@[reducible] def ms(m:Nat)(z:α)(a:List AV)(d:(Rw.e z).map .d=a)(k:PT os β):PT os β:=⟨.nat (List.replicate m z).length (.cs (Ae Rw.e (List.replicate m z)) k.a),
 fun E=>mg ((m:Nat):Int) ((m:Nat):Int) 256 (List.replicate m z).length a (Ae Rw.e (List.replicate m z))∧k.q E,if m≤549755813888 then k.m else none,k.n,fun E c y hm b=>by
  obtain⟨e,hm⟩:=BD hm
  exact⟨⟨by rw[mD],Int.le_refl _,by omega,by rw[mD];exact ZCI d m⟩,k.ok E c y hm b⟩⟩
@[reducible] def rn(j d n:Nat)(xs:List α)(k:PT os β):PT os β:=⟨.reb j d xs.length (Ae Rw.e xs) k.a,
 fun E=>(n=xs.length∧0*Rw.s α≤(Ae (Rw.e (α:=α)) xs).length∧(Ae Rw.e xs).drop (0*Rw.s α)=Ae Rw.e xs)∧k.q E,if n=xs.length then k.m else none,k.n,fun E c y hm b=>by
  obtain⟨a,hm⟩:=BD hm
  exact⟨⟨a,by rw[Gj];exact DT _,by rw[Gj];rfl⟩,k.ok E c y hm b⟩⟩
@[reducible] def Ey(n:Nat)(xs:List α):Sp:=⟨.av (.d (.list (xs.map Rw.e))),fun _=>G1 (Ae Rw.e xs) 0 n (Rw.s α) (xs.map Rw.e),n=xs.length,inferInstance,fun h _=>ZHu h (xV _ Rw.s0 Rw.len)⟩
@[reducible] def EC(xs:List α)(j a:Nat)(vs:List D)(Y:α→α)(he:∀x,Rw.e (Y x)=(Rw.e x).take a++vs++(Rw.e x).drop (a+vs.length))(k:List α→PT os β)(f:Nat.ble (a+vs.length) (Rw.s α)=true:=by kernel_rfl):PT os β:=
 ⟨.cs (Ae Rw.e (xs.set j (Y (xs.getD j Rw.z)))) (k (xs.set j (Y (xs.getD j Rw.z)))).a,fun E=>G4 (Ae Rw.e xs) (j*Rw.s α+a) (vs.map .d) (Ae Rw.e (xs.set j (Y (xs.getD j Rw.z))))∧(k (xs.set j (Y (xs.getD j Rw.z)))).q E,xs[j]?.bind fun x=>(k (xs.set j (Y x))).m,fun E=>∀l,(k l).n E,fun E g y hm d=>by
  obtain⟨x,b,c⟩:=bind_some hm
  have e:xs.getD j Rw.z=x:=by rw[YG,b];rfl
  exact⟨Zxa (Yn.1 b).1 Rw.len (Yo f) (he _),by rw[e];exact(k _).ok E (g _) y c d⟩⟩
@[reducible] def rb(j d n:Nat)(xs:List α)(off:Nat)(k:PT os β):PT os β:=⟨.reb j d (xs.drop off).length (Ae Rw.e (xs.drop off)) k.a,
 fun E=>(n=(xs.drop off).length∧off*Rw.s α≤(Ae (Rw.e (α:=α)) xs).length∧(Ae Rw.e xs).drop (off*Rw.s α)=Ae Rw.e (xs.drop off))∧k.q E,if n=(xs.drop off).length∧off≤xs.length then k.m else none,k.n,fun E c y hm b=>by
  obtain⟨a,hm⟩:=BD hm
  exact⟨ZDl a.1 a.2 Rw.len,k.ok E c y hm b⟩⟩
end
@[reducible] def Gf(q:Nat)(vs:List AV)(low:∀r:Ren,EW r (0,q) vs)(k:PT os β)(c:Nat.ble (q+1) os=true:=by kernel_rfl):PT os β:=
 ⟨k.a,fun E=>JC E.r (0,q)∧EW E.r (0,q) vs∧k.q E,k.m,k.n,fun E b y hm a=>⟨⟨rfl,by rw[E.g.no,E.g.κ];exact E.co.W q (Yo c)⟩,low _,k.ok E b y hm a⟩⟩
inductive Bd
 |no
 |nt (n:Nat)
 |it (x:Int)
def Bd.ov:Bd→Option AV
 |.no=>none
 |.nt n=>some (.d (.int .i64 (n:Int)))
 |.it x=>some (.d (.int .i64 x))
def Bd.vl(d:Nat):Bd→Nat
 |.no=>d
 |.nt n=>n
 |.it x=>x.toNat
def Bd.c:Bd→Prop
 |.it x=>0≤x
 |_=>True
instance (b:Bd):Decidable b.c:=by cases b<;>unfold Bd.c<;>infer_instance
theorem Bd.ok{d:Nat}{b:Bd}(h:b.c):CI d b.ov (b.vl d):=by
 cases b with
 |no=>rfl
 |nt n=>rfl
 |it x=>exact(Int.toNat_of_nonneg h).symm
@[reducible] def ss(s:ByteArray)(lo hi:Bd)(k:ByteArray→PT os β):PT os β:=
 ⟨.nat (lo.vl 0) (.nat (hi.vl s.size) (k (s.extract (lo.vl 0) (hi.vl s.size))).a),fun E=>CI 0 lo.ov (lo.vl 0)∧CI s.size hi.ov (hi.vl s.size)∧Ee (lo.vl 0) (hi.vl s.size) s.size∧(k (s.extract (lo.vl 0) (hi.vl s.size))).q E,
 if lo.c∧hi.c∧lo.vl 0≤hi.vl s.size∧hi.vl s.size≤s.size then(k (s.extract (lo.vl 0) (hi.vl s.size))).m else none,fun E=>∀x,(k x).n E,fun E c y hm b=>by
  obtain⟨a,hm⟩:=BD hm
  exact⟨Bd.ok a.1,Bd.ok a.2.1,a.2.2,(k _).ok E (c _) y hm b⟩⟩
@[reducible] def ssg(b:Bool)(s:ByteArray)(lo hi:Bd)(k:ByteArray→PT os β):PT os β:=
 ⟨.nat (lo.vl 0) (.nat (hi.vl s.size) (k (s.extract (lo.vl 0) (hi.vl s.size))).a),fun E=>(b=true→CI 0 lo.ov (lo.vl 0))∧(b=true→CI s.size hi.ov (hi.vl s.size))∧(b=true→Ee (lo.vl 0) (hi.vl s.size) s.size)∧(k (s.extract (lo.vl 0) (hi.vl s.size))).q E,
 if(b=true→lo.c∧hi.c∧lo.vl 0≤hi.vl s.size∧hi.vl s.size≤s.size)then(k (s.extract (lo.vl 0) (hi.vl s.size))).m else none,fun E=>∀x,(k x).n E,fun E d y hm c=>by
  obtain⟨a,hm⟩:=BD hm
  exact⟨fun e=>Bd.ok (a e).1,fun e=>Bd.ok (a e).2.1,fun e=>(a e).2.2,(k _).ok E (d _) y hm c⟩⟩
section
variable {α:Type} [Rw α]
@[reducible] def sL(xs:List α)(lo hi:Bd)(k:List α→PT os β):PT os β:=
 ⟨.nat (lo.vl 0) (.nat (hi.vl xs.length) (.av (.d (.list (((xs.drop (lo.vl 0)).take (hi.vl xs.length-lo.vl 0)).map Rw.e))) (k ((xs.drop (lo.vl 0)).take (hi.vl xs.length-lo.vl 0))).a)),
 fun E=>CI 0 lo.ov (lo.vl 0)∧CI (xs.map (Rw.e (α:=α))).length hi.ov (hi.vl xs.length)∧Ee (lo.vl 0) (hi.vl xs.length) (xs.map (Rw.e (α:=α))).length∧LN (xs.map Rw.e) (Rw.s α) (lo.vl 0) (hi.vl xs.length) (((xs.drop (lo.vl 0)).take (hi.vl xs.length-lo.vl 0)).map Rw.e)∧(k ((xs.drop (lo.vl 0)).take (hi.vl xs.length-lo.vl 0))).q E,
 if lo.c∧hi.c∧lo.vl 0≤hi.vl xs.length∧hi.vl xs.length≤xs.length then(k ((xs.drop (lo.vl 0)).take (hi.vl xs.length-lo.vl 0))).m else none,fun E=>∀x,(k x).n E,fun E c y hm b=>by
  obtain⟨a,hm⟩:=BD hm
  exact⟨Bd.ok a.1,by rw[YL];exact Bd.ok a.2.1,xA a.2.2,xY Rw.len,(k _).ok E (c _) y hm b⟩⟩
@[reducible] def sLg(b:Bool)(xs:List α)(lo hi:Bd)(k:List α→PT os β):PT os β:=
 ⟨.nat (lo.vl 0) (.nat (hi.vl xs.length) (.av (.d (.list (((xs.drop (lo.vl 0)).take (hi.vl xs.length-lo.vl 0)).map Rw.e))) (k ((xs.drop (lo.vl 0)).take (hi.vl xs.length-lo.vl 0))).a)),
 fun E=>(b=true→CI 0 lo.ov (lo.vl 0))∧(b=true→CI (xs.map (Rw.e (α:=α))).length hi.ov (hi.vl xs.length))∧(b=true→Ee (lo.vl 0) (hi.vl xs.length) (xs.map (Rw.e (α:=α))).length)∧(b=true→LN (xs.map Rw.e) (Rw.s α) (lo.vl 0) (hi.vl xs.length) (((xs.drop (lo.vl 0)).take (hi.vl xs.length-lo.vl 0)).map Rw.e))∧(k ((xs.drop (lo.vl 0)).take (hi.vl xs.length-lo.vl 0))).q E,
 if(b=true→lo.c∧hi.c∧lo.vl 0≤hi.vl xs.length∧hi.vl xs.length≤xs.length)then(k ((xs.drop (lo.vl 0)).take (hi.vl xs.length-lo.vl 0))).m else none,fun E=>∀x,(k x).n E,fun E d y hm c=>by
  obtain⟨a,hm⟩:=BD hm
  exact⟨fun e=>Bd.ok (a e).1,fun e=>by rw[YL];exact Bd.ok (a e).2.1,fun e=>xA (a e).2.2,fun _=>xY Rw.len,(k _).ok E (d _) y hm c⟩⟩
end
@[reducible] def sR(len off:Nat)(lo hi:Bd)(k:PT os β):PT os β:=
 ⟨.nat (lo.vl 0) (.nat (hi.vl len) (.nat (off+lo.vl 0) (.nat (hi.vl len-lo.vl 0) k.a))),fun E=>CI 0 lo.ov (lo.vl 0)∧CI len hi.ov (hi.vl len)∧Ee (lo.vl 0) (hi.vl len) len∧UI off (lo.vl 0) (hi.vl len) (off+lo.vl 0) (hi.vl len-lo.vl 0)∧k.q E,
 if lo.c∧hi.c∧lo.vl 0≤hi.vl len∧hi.vl len≤len then k.m else none,k.n,fun E c y hm b=>by
  obtain⟨a,hm⟩:=BD hm
  exact⟨Bd.ok a.1,Bd.ok a.2.1,a.2.2,⟨rfl,rfl⟩,k.ok E c y hm b⟩⟩
@[reducible] def A2(n:Nat):Sz:=⟨.num ((n:Nat):Int),fun _=>Bs ((n:Nat):Int) ((n:Nat):Int),fun _=>rfl⟩
@[reducible] def wa(a b:Nat):Sp:=⟨.num ((a+b:Nat):Int),fun _=>B8 .i64 (((a:Nat):Int)+((b:Nat):Int)) ((a+b:Nat):Int),a+b<9223372036854775808,inferInstance,fun h _=>y4 (by omega) (by omega) (by omega)⟩
@[reducible] def wi(x:Int):Sp:=⟨.num x,fun _=>B8 .i64 x x,-9223372036854775808≤x∧x<9223372036854775808,inferInstance,fun h _=>y4 rfl h.1 h.2⟩
@[reducible] def wk(i:IntKind)(x:Int):Sz:=⟨.num (i.wrap x),fun _=>B8 i x (i.wrap x),fun _=>rfl⟩
@[reducible] def ir(i len sz:Nat):Sp:=⟨.nat (i*sz),fun _=>J4 ((i:Nat):Int) len 0 sz (i*sz),i<len,inferInstance,fun h _=>ZPJ h⟩
@[reducible] def Ci(i:Int)(len sz:Nat):Sp:=⟨.nat (i.toNat*sz),fun _=>J4 i len 0 sz (i.toNat*sz),0≤i∧i<len,inferInstance,fun h _=>Zt8 h.1 h.2⟩
@[reducible] def ib(s:ByteArray)(i:Nat)(k:UInt8→PT os β):PT os β:=
 ⟨.num ((s.data.toList.getD i 0).toNat:Nat) (k (s.data.toList.getD i 0)).a,fun E=>Hk s (i:Nat) ((s.data.toList.getD i 0).toNat:Nat)∧(k (s.data.toList.getD i 0)).q E,s.data.toList[i]?.bind fun x=>(k x).m,fun E=>∀x,(k x).n E,fun E f y hm d=>by
  obtain⟨x,b,c⟩:=bind_some hm
  have e:s.data.toList.getD i 0=x:=by rw[YG,b];rfl
  have a:=(Yn.1 b).1
  exact⟨ya (by simpa using a),by rw[e];exact(k x).ok E (f x) y c d⟩⟩
@[reducible] def FA(b:Bool)(s:ByteArray)(i:Int)(k:UInt8→PT os β):PT os β:=
 ⟨.num ((s.data.toList.getD i.toNat 0).toNat:Nat) (k (s.data.toList.getD i.toNat 0)).a,fun E=>(b=true→Hk s i ((s.data.toList.getD i.toNat 0).toNat:Nat))∧(k (s.data.toList.getD i.toNat 0)).q E,if(b=true→0≤i∧i<s.size)then(k (s.data.toList.getD i.toNat 0)).m else none,fun E=>∀x,(k x).n E,fun E d y hm c=>by
  obtain⟨a,hm⟩:=BD hm
  exact⟨fun e=>xg (a e).1 (a e).2,(k _).ok E (d _) y hm c⟩⟩
@[reducible] def Ud(s:ByteArray)(i:Int)(k:UInt8→PT os β):PT os β:=
 ⟨.num ((s.data.toList.getD i.toNat 0).toNat:Nat) (k (s.data.toList.getD i.toNat 0)).a,fun E=>Hk s i ((s.data.toList.getD i.toNat 0).toNat:Nat)∧(k (s.data.toList.getD i.toNat 0)).q E,if 0≤i∧i<s.size then(k (s.data.toList.getD i.toNat 0)).m else none,fun E=>∀x,(k x).n E,fun E c y hm b=>by
  obtain⟨a,hm⟩:=BD hm
  exact⟨xg a.1 a.2,(k _).ok E (c _) y hm b⟩⟩
@[reducible] def ad(a b:ByteArray)(k:ByteArray→PT os β):PT os β:=⟨(k (a++b)).a,fun E=>tt a b∧(k (a++b)).q E,if a.size+b.size≤9223372036854775807 then(k (a++b)).m else none,fun E=>∀x,(k x).n E,fun E e y hm d=>by
  obtain⟨c,hm⟩:=BD hm
  exact⟨c,(k _).ok E (e _) y hm d⟩⟩
@[reducible] def lm(k:IntKind)(x y:Int):Sz:=⟨.num (CL k x y),fun _=>Bs (CL k x y) (CL k x y),fun _=>rfl⟩
@[reducible] def wor(k:IntKind)(x y:Int):Sz:=⟨.num (FF k x y),fun _=>Bs (FF k x y) (FF k x y),fun _=>rfl⟩
@[reducible] def wcp(k:IntKind)(x:Int):Sz:=⟨.num (HT k x),fun _=>Bs (HT k x) (HT k x),fun _=>rfl⟩
def su(k:IntKind)(x y:Int):Int:=x.fdiv (2^(min y.toNat k.bits))
def sv(k:IntKind)(x y:Int):Int:=k.wrap (x*2^(min y.toNat k.bits))
def tj(k:IntKind)(x y:Int):Int:=k.wrap (x.tdiv y)
def Hf(_:IntKind)(x y:Int):Int:=x.tmod y
@[reducible] def shr(i:IntKind)(x y:Int)(k:PT os β):PT os β:=v2 ⟨.num (su i x y),fun _=>True,0≤y,inferInstance,fun _ _=>trivial⟩ (fun _=>ON 0 y) (fun _=>Bs (x.fdiv (2^(min y.toNat i.bits))) (su i x y)) (fun h _=>⟨h,rfl⟩) k
@[reducible] def shl(i:IntKind)(x y:Int)(k:PT os β):PT os β:=v2 ⟨.num (sv i x y),fun _=>True,0≤y,inferInstance,fun _ _=>trivial⟩ (fun _=>ON 0 y) (fun _=>B8 i (x*2^(min y.toNat i.bits)) (sv i x y)) (fun h _=>⟨h,rfl⟩) k
@[reducible] def quo(i:IntKind)(x y:Int)(k:PT os β):PT os β:=v2 ⟨.num (tj i x y),fun _=>True,y≠0,inferInstance,fun _ _=>trivial⟩ (fun _=>OO y 0) (fun _=>B8 i (x.tdiv y) (tj i x y)) (fun h _=>⟨h,rfl⟩) k
@[reducible] def rem(i:IntKind)(x y:Int)(k:PT os β):PT os β:=v2 ⟨.num (Hf i x y),fun _=>True,y≠0,inferInstance,fun _ _=>trivial⟩ (fun _=>OO y 0) (fun _=>Bs (x.tmod y) (Hf i x y)) (fun h _=>⟨h,rfl⟩) k
structure KC (P:Program) (f:FuncId) (xs:List AV) {γ:Type} (M:Option γ) (e:γ→AV):Prop where
 k:∀l H y,M=some y→Zcq P f l xs H (fun z H'=>z=e y∧H'=H)
 x:∀r,Am r xs=xs
 e:∀r y,ren r (e y)=e y
@[reducible] def cl{P:Program}{f:FuncId}{xs:List AV}{γ:Type}[Inhabited γ]{M:Option γ}{e:γ→AV}(K:KC P f xs M e)(k:γ→PT os β):PT os β:=
 ⟨.call (e (M.getD default)) [] (k (M.getD default)).a,fun E=>GE P E.l E.r f xs [] (e (M.getD default))∧(k (M.getD default)).q E,M.bind fun y=>(k y).m,fun E=>∀y,(k y).n E,fun E h y hm g=>by
  obtain⟨x,a,c⟩:=bind_some hm
  have d:M.getD default=x:=by rw[a];rfl
  rw[d]
  exact⟨fun b _ _=>by rw[K.x,K.e];exact K.k _ b x a,(k x).ok E (h x) y c g⟩⟩
@[reducible] def clg(b:Bool){P:Program}{f:FuncId}{xs:List AV}{γ:Type}[Inhabited γ]{M:Option γ}{e:γ→AV}(K:KC P f xs M e)(k:γ→PT os β):PT os β:=
 ⟨.call (e (M.getD default)) [] (k (M.getD default)).a,fun E=>(b=true→GE P E.l E.r f xs [] (e (M.getD default)))∧(k (M.getD default)).q E,if(b=true→M.isSome=true)then(k (M.getD default)).m else none,fun E=>∀y,(k y).n E,fun E j y hm h=>by
  obtain⟨d,hm⟩:=BD hm
  refine⟨fun i c _ _=>?_,(k _).ok E (j _) y hm h⟩
  obtain⟨x,a⟩:=Y8.1 (d i)
  have g:M.getD default=x:=by rw[a];rfl
  rw[K.x,K.e,g];exact K.k _ c x a⟩
theorem KC.nrm{P:Program}{f:FuncId}{xs xs':List AV}{γ:Type}{M:Option γ}{e:γ→AV}(K:KC P f xs M e)(h:∀l H Post,Zcq P f l xs H Post→Zcq P f l xs' H Post)(a:∀r,Am r xs'=xs'):KC P f xs' M e:=⟨fun l H y hm=>h _ _ _ (K.k l H y hm),a,K.e⟩
end
section
variable {P:Program} {T:Nat→Option TI} {n:Nat} {C:Cx} {τ σ:St} {Q:Exit→St→Prop} {os:Nat} {p:List Nat} {b:Code}
def pa:List Nat→Code→Code
 |[],c=>c
 |i::p,c=>GQ [i] (pa p c)
def ZO8:Code→Bool
 |.seq _ _=>true
 |_=>false
def ZPL(i:Nat):Code→Bool
 |.block j _=>Nat.beq j i
 |_=>false
def ZQs:Code→Bool
 |.cond _ _ _=>true
 |_=>false
def ZOf:Code→Bool
 |.loop _=>true
 |_=>false
theorem sq(h:LW P n C (pa (0::p) b) τ (fun e τ'=>match e with|.normal=>LW P n C (pa (1::p) b) τ' Q|e=>Q e τ'))(hs:ZO8 (pa p b)=true:=by kernel_rfl):LW P n C (pa p b) τ Q:=by
 unfold pa at h
 generalize pa p b=c at*
 cases c with
 |seq x y=>exact ZLS h
 |_=>cases hs
def Qw(P:Program)(T:Nat→Option TI)(l n os:Nat)(r:Ren):Nat→Code→AT→St→(Exit→St→AT→Prop)→Prop
 |0,_,a,τ,K=>K .normal τ a
 |m+1,.seq x y,a,τ,K=>Cw P T l n os r x a τ (fun e τ' b=>match e with|.normal=>Qw P T l n os r m y b τ' K|e=>K e τ' b)
 |_,_,_,_,_=>False
def LC:Nat→Code→Code
 |m+1,.seq _ y=>LC m y
 |_,c=>c
def up:Nat→List Nat→List Nat
 |0,p=>p
 |m+1,p=>up m (1::p)
def Uf:Nat→Code→Bool
 |m+1,.seq _ y=>Uf m y
 |0,_=>true
 |_,_=>false
theorem nc:∀(m:Nat) (p:List Nat),Uf m (pa p b)=true→LC m (pa p b)=pa (up m p) b
 |0,p,_=>by
  show LC 0 (pa p b)=pa p b
  cases pa p b<;>rfl
 |m+1,p,h=>by
  have a:=nc m (1::p)
  have e:pa (1::p) b=GQ [1] (pa p b):=rfl
  show LC (m+1) (pa p b)=pa (up m (1::p)) b
  generalize pa p b=c at*
  cases c with
  |seq x y=>
   have e:pa (1::p) b=y:=e
   rw[e]at a
   exact a h
  |_=>cases h
theorem vx(o:CxOk C)(q:A7 P T)(hm:P.follows .mixedOrders=true){γ:Ac→Nat}{QQ:Exit→St→Prop}(r:∀e σ b,QQ e b→Wk n C σ b→QQ e σ):∀(m:Nat) (c:Code) (a:AT) (τ σ:St) (K:Exit→St→AT→Prop),Qw P T C.l n C.outs (C.r γ) m c a τ K→RG (C.r γ) C.l C.outs [] τ σ→
  (∀τ' d b,K .normal τ' d→RG (C.r γ) C.l C.outs [] τ' b→Bz P C.l n C.B (LC m c) QQ b)→(∀e τ' d b,e≠.normal→K e τ' d→RG (C.r γ) C.l C.outs [] τ' b→QQ e b)→Bz P C.l n C.B c QQ σ
 |0,c,a,τ,σ,K,h,f,g,_=>by
  have:=g τ a σ h f
  have e:LC 0 c=c:=by cases c<;>rfl
  grind
 |m+1,c,a,τ,σ,K,h,f,g,p=>by
  cases c with
  |seq x y=>
   refine dQ (Gs (Fi o q hm x a τ σ _ h f) fun e b hi=>?_)
   obtain⟨τ',d,i,j,k,l⟩:=hi
   cases e with
   |normal=>exact Bz.weak (vx o q hm r m y d τ' i K j k g p) l
   |_=>exact r _ _ _ (p _ _ _ _ (by intro e;cases e) j k) l
  |_=>exact h.elim
variable {β:Type} {Post:AV→List Blk→Prop} {rs:List ResultVar} {L:β→Prop} {y:β}
theorem An{fx:List Nat}(co:COx C os fx)(i:A7 P T)(hm:P.follows .mixedOrders=true){c:Code}(v:PT os β)(h:v.m=some y)(f:HL L y)
  (j:∀r (g:Gd C r),v.n ⟨⟨C.l,r,fun _ _=>False,Post⟩,L,C,_,co,g,rfl⟩) (k:∀l r Q Post,Cw P T l n os r c v.a τ (KF T rs os Post)=v.q ⟨l,r,Q,Post⟩:=by intro l r Q P;kernel_rfl):LW P n C c τ (FQ T rs os Post):=
 ZFV co.ok i hm co.O v.a rs (fun r Post=>v.q ⟨C.l,r,fun _ _=>False,Post⟩) (fun r Post=>k _ r _ Post) fun r a b d e=>v.ok _ (j r ⟨a,b,d,e⟩) y h f
theorem AD{fx:List Nat}(co:COx C os fx)(k:A7 P T)(hm:P.follows .mixedOrders=true){c:Code}(v:PT os β)(lf a:Lf)(j:∀τ,FQ T rs os Post .ret τ→Q .ret τ)(h:v.m=some y)(i:HL L y)
  (m:∀r (g:Gd C r),v.n ⟨⟨C.l,r,Q,Post⟩,L,C,_,co,g,rfl⟩) (o:∀l r Q Post,Cw P T l n os r c v.a τ (KB T rs os fx r Post lf a Q)=v.q ⟨l,r,Q,Post⟩:=by intro l r Q P;kernel_rfl):LW P n C c τ Q:=
 ZGw co.ok k hm co.O co.F v.a lf a rs (fun r Q Post=>v.q ⟨C.l,r,Q,Post⟩) (o _) j fun r b d e f=>v.ok _ (m r ⟨b,d,e,f⟩) y h i
theorem Al{fx:List Nat}(co:COx C os fx)(I:A7 P T)(hm:P.follows .mixedOrders=true)(m:Nat)(v:PT os β)(lf O:Lf)(H:∀τ,FQ T rs os Post .ret τ→Q .ret τ)(M:v.m=some y)(G:HL L y)
  (J:∀r (g:Gd C r),v.n ⟨⟨C.l,r,fun e τ'=>match e with|.normal=>LW P n C (pa (up m p) b) τ' Q|e=>Q e τ',Post⟩,L,C,_,co,g,rfl⟩)
  (K:∀l r Q Post,Qw P T l n os r m (pa p b) v.a τ (KB T rs os fx r Post lf O Q)=v.q ⟨l,r,Q,Post⟩:=by intro l r Q P;kernel_rfl) (hl:Uf m (pa p b)=true:=by kernel_rfl):LW P n C (pa p b) τ Q:=by
 intro γ σ u F
 have s:=v.ok _ (J (C.r γ) ⟨rfl,rfl,rfl,rfl⟩) y M G
 rw[←K]at s
 generalize v.a=a at s
 rw[←co.O,←co.F]at s
 refine vx co.ok I hm (QQ:=fun e σ=>Is n C (Q e) σ) (fun e σ D hi hw=>?_) m _ _ _ _ _ s F (fun τ' q D d c=>?_) (fun e τ' q D w d c=>?_)
 ·obtain⟨k,t,o,N,f,h,j⟩:=hi
  exact⟨k,t,o,N,f,h,hw.trans j⟩
 ·simp only[KB]at d
  obtain⟨S,E,R,f,h,j⟩:=BX (n:=n) co.ok q d c
  obtain⟨k,t,o,x,z,A,B⟩:=Gp (n:=n) co.ok f u h
  rw[nc m p hl]
  exact Bz.weak (z k o x A) (j.trans B)
 ·cases e with
  |normal=>exact absurd rfl w
  |ret=>exact .of u c (H _ ⟨.inr rfl,q,by rw[←co.O];exact d⟩)
  |exit i=>
   simp only[KB]at d
   obtain⟨S,E,R,f,h,j⟩:=BX (n:=n) co.ok q d c
   obtain⟨k,t,o,x,z,A,B⟩:=Gp (n:=n) co.ok f u h
   exact⟨k,t,o,x,z,A,j.trans B⟩
  |_=>exact d.elim
theorem ZOr{f:Type}{fx:List Nat}(co:COx C os fx)(k:A7 P T)(hm:P.follows .mixedOrders=true)(m:Nat)(v:PT os β)(lf d:Lf)(j:∀τ,FQ T rs os Post .ret τ→Q .ret τ)(s:v.m=some y)(i:HL L y)(c:f→St)(a:f→Option β)
  (h:∀x y,a x=some y→HL L y→LW P n C (pa (up m p) b) (c x) Q)
  (o:(∀x y,a x=some y→HL L y→LW P n C (pa (up m p) b) (c x) Q)→∀r (g:Gd C r),v.n ⟨⟨C.l,r,fun e τ'=>match e with|.normal=>LW P n C (pa (up m p) b) τ' Q|e=>Q e τ',Post⟩,L,C,_,co,g,rfl⟩)
  (q:∀l r Q Post,Qw P T l n os r m (pa p b) v.a τ (KB T rs os fx r Post lf d Q)=v.q ⟨l,r,Q,Post⟩:=by intro l r Q P;kernel_rfl) (hl:Uf m (pa p b)=true:=by kernel_rfl):LW P n C (pa p b) τ Q:=
 Al co k hm m v lf d j s i (o h) q hl
theorem bk(i:Nat)(h:LW P n C (pa (0::p) b) τ (fun e τ'=>match e with|.exit j=>(match Nat.beq j i with|true=>Q .normal τ'|false=>Q (.exit j) τ')|e=>Q e τ'))(hs:ZPL i (pa p b)=true:=by kernel_rfl):LW P n C (pa p b) τ Q:=by
 unfold pa at h
 generalize pa p b=c at*
 cases c with
 |block j x=>exact ZrW i x (by rw[show j=i from Yc hs]) h
 |_=>cases hs
theorem cd(x:Bool){f g:Option β}(hm:(if x=true then f else g)=some y)(a:f=some y→LW P n C (pa (0::p) b) τ Q)(d:g=some y→LW P n C (pa (1::p) b) τ Q)(hs:ZQs (pa p b)=true:=by kernel_rfl)(he:ev τ.s (ZJO (pa p b))=.d (.bool x):=by kernel_rfl):LW P n C (pa p b) τ Q:=by
 unfold pa at a d
 generalize pa p b=c at*
 cases c with
 |cond o u v=>exact ZE4 he (fun e=>a (by rw[Ys e]at hm;exact hm)) (fun e=>d (by rw[Yr (by rw[e];decide)]at hm;exact hm))
 |_=>cases hs
theorem lo(h:LL P n C (pa (0::p) b) τ Q)(hs:ZOf (pa p b)=true:=by kernel_rfl):LW P n C (pa p b) τ Q:=by
 unfold pa at h
 generalize pa p b=c at*
 cases c with
 |loop x=>exact ZD8 h
 |_=>cases hs
theorem ZG(v:PT os β){fx:List Nat}(co:COx C os fx)(e:v.m=some y)(a:HL L y)(b:∀r (g:Gd C r),v.n ⟨⟨C.l,r,fun _ _=>False,Post⟩,L,C,_,co,g,rfl⟩)(r:Ren)(d:Gd C r)
  (c:∀l r Q Post,Mm T rs os τ v.a Post=v.q ⟨l,r,Q,Post⟩:=by intro l r Q P;kernel_rfl):FQ T rs os Post .normal τ:=
 ⟨.inl rfl,v.a,by rw[c C.l r (fun _ _=>False) Post];exact v.ok _ (b r d) y e a⟩
end
section
variable {σ ξ ρ:Type}
def Ao(B:σ→Option (Lv σ ξ ρ)):Nat→σ→Option (ξ ⊕ ρ)
 |0,_=>none
 |n+1,v=>match B v with
  |some (.nx a)=>Ao B n a
  |some (.ex b)=>some (.inl b)
  |some (.rt y)=>some (.inr y)
  |none=>none
def Aj:Nat:=4611686018427387904
def UG(S:σ→St)(X:ξ→Nat×St)(er:ρ→AV)(bs:ρ→List Blk)(Q:Exit→St→Prop)(Post:AV→List Blk→Prop):Lv σ ξ ρ→Prop
 |.nx v=>Q .normal (S v)
 |.ex b=>Q (.exit (X b).1) (X b).2
 |.rt y=>Post (er y) (bs y)
variable {P:Program} {T:Nat→Option TI} {n:Nat} {C:Cx} {τ:St} {Q:Exit→St→Prop} {rs:List ResultVar} {os:Nat} {c:Code} {Post:AV→List Blk→Prop}
variable {S:σ→St} {X:ξ→Nat×St} {er:ρ→AV} {bs:ρ→List Blk} {B:σ→Option (Lv σ ξ ρ)}
def KL(P:Program)(T:Nat→Option TI)(n:Nat)(C:Cx)(c:Code)(rs:List ResultVar)(os:Nat)(S:σ→St)(X:ξ→Nat×St)(er:ρ→AV)(bs:ρ→List Blk)(B:σ→Option (Lv σ ξ ρ)):Prop:=
 ∀v o,B v=some o→∀(Q:Exit→St→Prop) (Post:AV→List Blk→Prop),(∀τ,FQ T rs os Post .ret τ→Q .ret τ)→HL (UG S X er bs Q Post) o→LW P n C c (S v) Q
theorem vP(g:KL P T n C c rs os S X er bs B)(f:∀τ,FQ T rs os Post .ret τ→Q .ret τ):∀(k:Nat) (v:σ) (o:ξ ⊕ ρ),Ao B k v=some o→
  (∀b,o=.inl b→Q (.exit (X b).1) (X b).2)→(∀y,o=.inr y→Post (er y) (bs y))→LL P n C c (S v) Q
 |0,v,o,h,_,_=>by cases h
 |k+1,v,o,h,d,e=>by
  rw[Ao]at h
  refine wU ?_
  cases a:B v with
  |none=>rw[a]at h;cases h
  |some w=>
   rw[a]at h
   refine g v w a _ Post (fun τ i=>f τ i) ?_
   cases w with
   |nx j=>exact vP g f k j o h d e
   |ex b=>cases h;exact d b rfl
   |rt y=>cases h;exact e y rfl
theorem zS{β:Type}{k:ξ ⊕ ρ→Option β}{N:Nat}{v:σ}{y:β}(i:KL P T n C c rs os S X er bs B)(h:∀τ,FQ T rs os Post .ret τ→Q .ret τ)(hm:(Ao B N v).bind k=some y)
  (f:∀b,k (.inl b)=some y→Q (.exit (X b).1) (X b).2) (g:∀z,k (.inr z)=some y→Post (er z) (bs z)):LL P n C c (S v) Q:=by
 obtain⟨o,d,a⟩:=bind_some hm
 exact vP i h N v o d (fun b e=>f b (e▸a)) (fun z e=>g z (e▸a))
theorem AK{g:ξ→Option ρ}{N:Nat}{v:σ}{y:ρ}(f:KL P T n C c rs os S X er bs B)(e:∀τ,FQ T rs os Post .ret τ→Q .ret τ)(hm:(Ao B N v).bind (Sum.elim g some)=some y)(d:HL (fun y=>Post (er y) (bs y)) y)
  (a:∀b,g b=some y→Q (.exit (X b).1) (X b).2) (hs:S v=τ:=by kernel_rfl):LL P n C c τ Q:=
 hs▸zS f e hm a fun z h=>by cases h;exact d
theorem HY{d a:Type}{f:d→St}{h:a→Nat×St}{e:Exit→St→Prop}{g:ξ→Option (Lv d a ρ)}{N:Nat}{v:σ}{y:Lv d a ρ}(l:KL P T n C c rs os S X er bs B)(k:∀τ,FQ T rs os Post .ret τ→Q .ret τ)(hm:(Ao B N v).bind (Sum.elim g fun z=>some (.rt z))=some y)(j:HL (UG f h er bs e Post) y)
  (i:∀b,g b=some y→Q (.exit (X b).1) (X b).2) (hs:S v=τ:=by kernel_rfl):LL P n C c τ Q:=
 hs▸zS l k hm i fun z m=>by cases m;exact j
end
theorem Av{P:Program}{T:Nat→Option TI}{n:Nat}{f:FuncId}{fn:Func}{xs:List AV}{γ:Type}{M:Option γ}{e:γ→AV}(g:P.funcs[f]?=some fn)(i:fn.ntmps=n)(c:A7 P T)(rs:List ResultVar)
  (h:∀C:Cx,CO C 0→∀y,M=some y→∀Post:AV→List Blk→Prop,HL (fun y=>Post (e y) []) y→LW P n C (pa [] (AB fn)) (Ab (Dk 0 xs) []) (FQ T rs 0 Post))
  (b:∀r,Am r xs=xs:=by intro r;kernel_rfl) (he:∀r y,ren r (e y)=e y:=by intro r y;kernel_rfl)
  (d:fn.body=some (AB fn):=by kernel_rfl) (a:(fn.name== "runtime.NumGoroutine")=false:=by kernel_rfl) (j:fn.results.toList=rs:=by kernel_rfl) (hl:Nat.ble xs.length n=true:=by kernel_rfl):KC P f xs M e:=
 ⟨fun l H y hm=>vM rs (AB fn) (fun _=>.top) xs g d a i j (Yo hl) c (b _) fun B=>h _ ⟨da l B _ H,rfl,rfl,fun _ h=>absurd h (Ih _)⟩ y hm (fun z _=>z=e y∧H=H) ⟨rfl,rfl⟩,b,he⟩
end Go.Eng
namespace Go.Eng
set_option linter.all false
open Go Go.RowKit
def Dl:Nat→List Blk→List (Ac×Blk)
 |_,[]=>[]
 |i,b::bs=>((0,i),b)::Dl (i+1) bs
abbrev Cl:=(Ac→Prop)→Nat→Hp→(Nat→AV)→Prop
structure KO (P:Program) (f:FuncId) (os:Nat) (ys:List AV) (bi:List Blk) (Θ:Cl) {γ:Type} (M:Option γ) (e:γ→AV) (bs:γ→List Blk):Prop where
 k:∀l H (ks:List Ac) (gs:List Nat) (θ:Nat→AV),ks.length=os→Hr l ks→ks.Nodup→H8 H (BV l ks gs θ H) (Dl 0 bi) 0 ks→Θ (fun k=>k∈ks) l H θ→∀y,M=some y→
  Zcq P f l (Am (BV l ks gs θ H) ys) H (fun z H'=>z=ren (BV l ks gs θ H) (e y)∧H'=C5 H ks (Ck (BV l ks gs θ H) 0 (bs y)))
mutual
def Jq(os:Nat):AV→Bool
 |.ref k _ _ _=>Nat.beq k.1 0&&Nat.ble (k.2+1) os
 |.ptr k _ _=>Nat.beq k.1 0&&Nat.ble (k.2+1) os
 |.mp k _=>Nat.beq k.1 0&&Nat.ble (k.2+1) os
 |.fn f xs ys=>(match f with|.yield _=>false|_=>true)&&Hn os xs&&Hn os ys
 |.agg xs=>Hn os xs
 |.tup xs=>Hn os xs
 |.top=>true
 |.d _=>true
 |.e0=>true
 |.p _=>true
 |.iptr _ _=>true
 |.ifc _ _ _=>true
def Hn(os:Nat):List AV→Bool
 |[]=>true
 |x::xs=>Jq os x&&Hn os xs
end
def Lk(os:Nat)(r a:Ren):Prop:=∀q,q<os→r.κ (0,q)=a.κ (0,q)∧r.γ (0,q)=a.γ (0,q)
theorem eu{os:Nat}{r c:Ren}(hs:Lk os r c){k:Ac}(h:(Nat.beq k.1 0&&Nat.ble (k.2+1) os)=true):r.κ k=c.κ k∧r.γ k=c.γ k:=by
 simp only[Ya]at h
 obtain⟨a,b⟩:=k
 have d:=Yc h.1
 have e:=Yo h.2
 simp only at d e
 subst d
 exact hs b e
mutual
theorem ec{os:Nat}{r c:Ren}(hs:Lk os r c):∀x:AV,Jq os x=true→ren r x=ren c x
 |.ref k g off n,h=>by obtain⟨a,b⟩:=eu hs h;simp only[ren,a,b]
 |.ptr k g off,h=>by obtain⟨a,b⟩:=eu hs h;simp only[ren,a,b]
 |.mp k g,h=>by obtain⟨a,b⟩:=eu hs h;simp only[ren,a,b]
 |.fn f xs ys,h=>by
  simp only[Jq,Ya]at h
  have a:=Kz hs xs h.1.2
  have b:=Kz hs ys h.2
  cases f<;>first|(simp only[ren,a,b];done)|(simp at h)
 |.agg xs,h=>by simp only[Jq]at h;simp only[ren,Kz hs xs h]
 |.tup xs,h=>by simp only[Jq]at h;simp only[ren,Kz hs xs h]
 |.top,_=>by simp[ren]
 |.d _,_=>by simp[ren]
 |.e0,_=>by simp[ren]
 |.p _,_=>by simp[ren]
 |.iptr _ _,_=>by simp[ren]
 |.ifc _ _ _,_=>by simp[ren]
theorem Kz{os:Nat}{r a:Ren}(hs:Lk os r a):∀xs:List AV,Hn os xs=true→Am r xs=Am a xs
 |[],_=>by simp[Am]
 |x::xs,h=>by
  simp only[Hn,Ya]at h
  simp only[Am,ec hs x h.1,Kz hs xs h.2]
end
def Fw(os:Nat):List Blk→Prop
 |[]=>True
 |b::bs=>(Fo b.cells∨Hn os b.cells=true)∧b.live=true∧Fw os bs
theorem Fw.ren{os:Nat}{r a:Ren}(hs:Lk os r a):∀(bs:List Blk) (i:Nat),i+bs.length≤os→Fw os bs→Ck r i bs=Ck a i bs
 |[],_,_,_=>rfl
 |b::bs,i,hl,h=>by
  simp only[Db]at hl
  have d:Am r b.cells=Am a b.cells:=by
   rcases h.1 with c|e
   ·rw[Gq c,Gq c]
   ·exact Kz hs _ e
  simp only[Ck,Fw.ren hs bs (i+1) (by omega) h.2.2,AI,d,(hs i (by omega)).2]
theorem Fw.live{os:Nat}:∀{bs:List Blk},Fw os bs→∀b∈bs,b.live=true
 |c::bs,h,b,a=>by
  rcases YM.1 a with rfl|a
  ·exact h.2.1
  ·exact Fw.live h.2.2 b a
theorem Ll:Fo []:=fun x a=>by cases a
theorem A8{P:Program}{T:Nat→Option TI}{n:Nat}{f:FuncId}{fn:Func}{ys:List AV}{bi:List Blk}{Θ:Cl}{γ:Type}{M:Option γ}{e:γ→AV}{bs:γ→List Blk}(G:P.funcs[f]?=some fn)(I:fn.ntmps=n)(E:A7 P T)(u:List ResultVar)(os:Nat)
  (h:∀C:Cx,CO C os→Θ C.no C.l C.H0 C.θ→∀y,M=some y→∀a:AV→List Blk→Prop,HL (fun y=>a (e y) (bs y)) y→LW P n C (pa [] (AB fn)) (Ab (Dk 0 ys) (Dl 0 bi)) (FQ T u os a))
  (he:∀y,Jq os (e y)=true:=by intro y;kernel_rfl) (hB:∀y,Fw os (bs y):=by intro y;repeat(first|exact trivial|refine⟨.inl (AW _ _),rfl,?_⟩|refine⟨.inl Ll,rfl,?_⟩|refine⟨.inr (by kernel_rfl),rfl,?_⟩)) (hl:∀y,(bs y).length=os:=by intro y;rfl) (o:Hi os (Dl 0 bi)=true:=by kernel_rfl)
  (F:fn.body=some (AB fn):=by kernel_rfl) (c:(fn.name== "runtime.NumGoroutine")=false:=by kernel_rfl) (d:fn.results.toList=u:=by kernel_rfl) (K:Nat.ble ys.length n=true:=by kernel_rfl):KO P f os ys bi Θ M e bs:=
 ⟨fun l H ks g θ p i t B L y hy=>by
  have hN:∀r,G3 l ks g r→Lk os r (BV l ks g θ H):=fun r d q J=>by
   obtain⟨v,w⟩:=d
   exact⟨congrFun v _,w q (by omega)⟩
  refine ZlI u (AB fn) ks g os θ ys (Dl 0 bi) (e y) (bs y) (Y':=ren (BV l ks g θ H) (e y)) (bs':=Ck (BV l ks g θ H) 0 (bs y)) G F c I d (by rw[Cd];exact Yo K) E p i t o B rfl (hl y) (hB y).live
   (fun r d=>ec (hN r d) _ (he y)) (fun r d=>Fw.ren (hN r d) _ _ (by rw[hl];omega) (hB y)) (fun C x D A s m N O j=>?_) ⟨rfl,rfl⟩
  refine h C ⟨x,D,A,fun q J=>?_⟩ (by rw[j,s,m,N];exact L) y hy (fun z b=>z=e y∧b=bs y) ⟨rfl,rfl⟩
  rw[j,O]
  show(match Bj ks q with|some k=>k|none=>(0,0))∈ks
  rw[BY,Yh (by omega)]
  exact Ma _⟩
def Er(r:Ren):List (Ac×Blk)→List Nat
 |[]=>[]
 |(k,b)::a=>(r.γ k+b.g)::Er r a
def BE(r a:Ren):Nat→List Blk→List (Ac×Blk)→Prop
 |i,b::bs,(k,c)::cs=>(b.live=true→c.live=true∧AI r (0,i) b=AI a k c)∧r.γ (0,i)+b.g=a.γ k+c.g∧BE r a (i+1) bs cs
 |_,[],[]=>True
 |_,_,_=>False
def Gz:List Ac→Bool
 |[]=>true
 |k::ks=>!(ks.any (Bq k))&&Gz ks
theorem M9{κ:Ac→Ac}{os:Nat}(a:∀q k:Ac,Bx os q=true→Bx os k=true→q≠k→κ q≠κ k):∀(ks:List Ac),Gz ks=true→ks.all (Bx os)=true→(ks.map κ).Nodup
 |[],_,_=>List.nodup_nil
 |k::ks,h,b=>by
  simp only[Gz,Ya,Yk]at h
  simp only[Ha,Ya]at b
  rw[Y9,List.nodup_cons]
  refine⟨fun hm=>?_,M9 a ks h.2 b.2⟩
  obtain⟨q,d,e⟩:=Y0.1 hm
  have c:q≠k:=fun e'=>RJ h.1 (e'▸d)
  grind
section
variable {P:Program} {f:FuncId} {os os':Nat} {ys:List AV} {bi:List Blk} {Θ:Cl} {γ:Type} {M:Option γ} {e:γ→AV} {bs:γ→List Blk} {C:Cx} {r:Ren} {xs:List AV} {x:AV} {y:γ}
theorem Si{fx:List Nat}(co:COx C os' fx)(g:Gd C r):∀q k:Ac,Bx os' q=true→Bx os' k=true→q≠k→r.κ q≠r.κ k:=by
 intro q k m j l he
 rw[g.κ]at he
 rcases Fl m with e|⟨e,h⟩<;>rcases Fl j with f|⟨f,i⟩
 ·obtain⟨a,b⟩:=q
  obtain⟨c,d⟩:=k
  simp only at e f
  subst e;subst f
  rw[co.ok.own,co.ok.own]at he
  grind
 ·obtain⟨a,b⟩:=q
  obtain⟨c,d⟩:=k
  simp only at e f i
  subst e;subst f
  rw[co.ok.own]at he
  have:=co.ok.out d (by rw[co.O];exact i)
  grind
 ·obtain⟨a,b⟩:=q
  obtain⟨c,d⟩:=k
  simp only at e h f
  subst e;subst f
  rw[co.ok.own]at he
  have:=co.ok.out b (by rw[co.O];exact h)
  grind
 ·obtain⟨a,b⟩:=q
  obtain⟨c,d⟩:=k
  simp only at e h f i
  subst e;subst f
  have:=co.ok.inj b d (by rw[co.O];exact h) (by rw[co.O];exact i) he
  grind
theorem KZ{fx:List Nat}(co:COx C os' fx)(g:Gd C r):∀(ks:List Ac),ks.all (Bx os')=true→Hr (C.l+1) (ks.map r.κ)
 |[],_=>trivial
 |k::ks,h=>by
  simp only[Ha,Ya]at h
  refine⟨?_,KZ co g ks h.2⟩
  rw[g.κ]
  obtain⟨a,b⟩:=k
  rcases Fl h.1 with c|⟨c,d⟩
  ·simp only at c;subst c;rw[co.ok.own];exact Yp _
  ·simp only at c d;subst c;exact UU (co.ok.out b (by rw[co.O];exact d))
theorem Np:∀(bi:List Blk) (i j:Nat),AF (Dl i bi) (0,i+j)=(bi[j]?).getD Et
 |[],i,j=>by simp[Dl,AF]
 |b::bi,i,0=>by simp[Dl,AF,Bq]
 |b::bi,i,j+1=>by
  have a:=Np bi (i+1) j
  simp only[Dl,AF]
  have:Bq (0,i) (0,i+(j+1))=false:=by
   simp only[Bq,Yg]
   right
   cases h:Nat.beq i (i+(j+1))with
   |false=>rfl
   |true=>have:=Yc h;omega
  grind
theorem NL{g:Ren}{d:Hp}:∀(bi:List Blk) (a:List (Ac×Blk)) (i:Nat) (B:List Blk),(∀j,AF (Dl 0 B) (0,i+j)=(bi[j]?).getD Et)→BE g r i bi a→
  (∀p∈a,(d (r.κ p.1)).g=r.γ p.1+p.2.g∧(p.2.live=true→d (r.κ p.1)=AI r p.1 p.2))→H8 d g (Dl 0 B) i ((a.map (·.1)).map r.κ)
 |[],[],i,B,_,_,_=>trivial
 |b::bi,(k,c)::a,i,B,hB,h,f=>by
  have e:=hB 0
  simp only[Y7,YQ,DS]at e
  obtain⟨n,o,l⟩:=h
  refine⟨?_,NL bi a (i+1) B (fun j=>?_) l fun p m=>f p (YS _ m)⟩
  ·rw[e]
   have q:=f _ (Y1 ..)
   grind
  ·have:=hB (j+1)
   grind
 |[],_::_,_,_,_,h,_=>h.elim
 |_::_,[],_,_,_,h,_=>h.elim
theorem Zue{H:Hp}{k:Ac}:updH H k (H k)=H:=by
 funext q
 by_cases h:q=k
 ·subst h;exact AN ..
 ·exact AG _ _ h
theorem dj{g:Ren}{d:Hp}:∀(bi:List Blk) (a:List (Ac×Blk)) (i:Nat),BE g r i bi a→(∀b∈bi,b.live=true)→(∀p∈a,p.2.live=true→d (r.κ p.1)=AI r p.1 p.2)→C5 d ((a.map (·.1)).map r.κ) (Ck g i bi)=d
 |[],[],_,_,_,_=>rfl
 |b::bi,(k,c)::a,i,h,hl,f=>by
  obtain⟨l,q,m⟩:=h
  have e:=l (hl b (Y1 ..))
  have j:=f _ (Y1 ..) e.1
  simp only[Y9,C5,Ck]
  rw[e.2,←j,Zue]
  exact dj bi a (i+1) m (fun b n=>hl b (YS _ n)) fun p o=>f p (YS _ o)
 |[],_::_,_,h,_,_=>h.elim
 |_::_,[],_,h,_,_=>h.elim
theorem dS{j:Ren}:∀(d:List Blk) (f a:List (Ac×Blk)) (i:Nat) (g:Hp),BE j r i d a→(∀b∈d,b.live=true)→f.map (·.1)=a.map (·.1)→C5 g ((f.map (·.1)).map r.κ) (Ck j i d)=CK r a g
 |[],[],[],_,_,_,_,_=>rfl
 |[],_::_,[],_,_,_,_,h=>by cases h
 |b::d,[],_::_,_,_,_,_,h=>by cases h
 |b::d,(k,c)::f,(q,o)::a,i,g,h,hl,he=>by
  obtain⟨l,p,m⟩:=h
  simp only[Y9,List.cons.injEq]at he
  obtain⟨rfl,he⟩:=he
  have e:=l (hl b (Y1 ..))
  simp only[Y9,C5,Ck,CK]
  rw[e.2]
  exact dS d f a (i+1) _ m (fun b n=>hl b (YS _ n)) he
 |_::_,_,[],_,_,h,_,_=>h.elim
 |[],_,_::_,_,_,h,_,_=>h.elim
def rC(C:Cx)(r:Ren)(a:List (Ac×Blk))(θ:Nat→AV)(H:Hp):Ren:=BV (C.l+1) ((a.map (·.1)).map r.κ) (Er r a) θ H
def Th(Θ:Cl)(C:Cx)(r:Ren)(b c:List (Ac×Blk))(θ:Nat→AV):Prop:=
 ∀a,(∀p∈c,(a (r.κ p.1)).g=r.γ p.1+p.2.g∧(p.2.live=true→a (r.κ p.1)=AI r p.1 p.2))→(∀k:Ac,k.1≤C.l→¬r.no k→a k=r.H0 k)→Θ (fun k=>k∈(b.map (·.1)).map r.κ) (C.l+1) a θ
theorem BJ(K:KO P f os ys bi Θ M e bs)(hy:M=some y){fx:List Nat}(co:COx C os' fx)(g:Gd C r)(a k:List (Ac×Blk))(θ:Nat→AV)(G:Th Θ C r a (a++k) θ)(l:∀H,BE (rC C r a θ H) r 0 bi a)(t:bs y=bi:=by rfl)(n:bi.all Blk.live=true:=by kernel_rfl)(i:(a++k).all (fun p=>p.2.live)=true:=by kernel_rfl)(F:∀H,Am (rC C r a θ H) ys=Am r xs:=by intro H;kernel_rfl)(u:∀H,ren (rC C r a θ H) (e y)=ren r x:=by intro H;kernel_rfl)
  (m:((a.map (·.1)).all (Bx os')&&Gz (a.map (·.1))&&Nat.beq a.length os)=true:=by kernel_rfl):GE P C.l r f xs (a++k) x:=by
 intro d v D
 have s:∀b∈bi,b.live=true:=fun b E=>Yy.1 n b E
 have o:∀p∈a++k,p.2.live=true:=fun p c=>Yy.1 i p c
 have h:∀p∈a,p∈a++k:=fun p c=>Ic _ c
 simp only[Ya]at m
 have q:∀p∈a++k,(d (r.κ p.1)).g=r.γ p.1+p.2.g∧(p.2.live=true→d (r.κ p.1)=AI r p.1 p.2):=fun p c=>⟨by rw[v p c (o p c)];rfl,v p c⟩
 have:=K.k (C.l+1) d ((a.map (fun p:Ac×Blk=>p.1)).map r.κ) (Er r a) θ (by rw[YL,YL];exact Yc m.2) (KZ co g _ m.1.1) (M9 (Si co g) _ m.1.2 m.1.1)
  (NL bi a 0 bi (fun j=>by have:=Np bi 0 j;rwa [YP]at this⊢) (l d) fun p c=>q p (h p c)) (G d q D) y hy
 rw[←F d]
 refine this.mono fun z w ⟨A,B⟩=>⟨A.trans (u d),B.trans ?_⟩
 rw[t]
 exact dj bi a 0 (l d) s fun p c hl=>(q p (h p c)).2 hl
theorem DA(K:KO P f os ys bi Θ M e bs)(hy:M=some y){fx:List Nat}(co:COx C os' fx)(g:Gd C r)(a m c:List (Ac×Blk))(θ:Nat→AV)(E:Th Θ C r a (a++m) θ)
  (n:∀H,BE (rC C r a θ H) r 0 bi a) (h:∀H,BE (rC C r a θ H) r 0 (bs y) c) (k:(bs y).all Blk.live=true:=by kernel_rfl) (D:∀H,Am (rC C r a θ H) ys=Am r xs:=by intro H;kernel_rfl) (s:∀H,ren (rC C r a θ H) (e y)=ren r x:=by intro H;kernel_rfl)
  (i:((a.map (·.1)).all (Bx os')&&Gz (a.map (·.1))&&Nat.beq a.length os)=true:=by kernel_rfl) (he:a.map (·.1)=c.map (·.1):=by rfl):GA P C.l r f xs (a++m) x c []:=by
 have o:∀b∈bs y,b.live=true:=fun b B=>Yy.1 k b B
 have l:∀p∈a,p∈a++m:=fun p q=>Ic _ q
 refine ZwH rfl rfl fun d t A=>?_
 simp only[Ya]at i
 have:=K.k (C.l+1) d ((a.map (fun p:Ac×Blk=>p.1)).map r.κ) (Er r a) θ (by rw[YL,YL];exact Yc i.2) (KZ co g _ i.1.1) (M9 (Si co g) _ i.1.2 i.1.1)
  (NL bi a 0 bi (fun j=>by have:=Np bi 0 j;rwa [YP]at this⊢) (n d) fun p q=>t p (l p q)) (E d t A) y hy
 rw[←D d]
 exact this.mono fun z u ⟨v,w⟩=>⟨v.trans (s d),w.trans (dS (bs y) a c 0 d (h d) o he)⟩
end
structure CloM (P:Program) (C:Cx) (i:Nat) (xs:List AV) {γ:Type} (M:Option γ) (e:γ→AV):Prop where
 k:∀y,M=some y→Cg P C.l C.no C.H0 (C.θ i) xs (e y)
 x:∀r,Am r xs=xs
 e:∀r y,ren r (e y)=e y
section
variable {os:Nat} {β γ:Type} [Inhabited γ]
theorem CloM.callF{P:Program}{i:Nat}{xs:List AV}{M:Option γ}{e:γ→AV}(E:Ev os β)(h:CloM P E.C i xs M e){y:γ}(hy:M=some y):NZ P E.E.l E.E.r i xs [] (e y):=
 ZwS (congrFun E.g.θ i) (by rw[E.hl,E.g.no,E.g.H];exact h.k y hy) (h.x _) (h.e _ _)
@[reducible] def cf(P:Program)(i:Nat)(xs:List AV)(M:Option γ)(e:γ→AV)(k:γ→PT os β):PT os β:=
 ⟨.call (e (M.getD default)) [] (k (M.getD default)).a,fun E=>NZ P E.l E.r i xs [] (e (M.getD default))∧(k (M.getD default)).q E,M.bind fun y=>(k y).m,fun E=>CloM P E.C i xs M e∧∀y,(k y).n E,fun E b y hm f=>by
  obtain⟨x,a,c⟩:=bind_some hm
  have d:M.getD default=x:=by rw[a];rfl
  rw[d]
  exact⟨b.1.callF E a,(k x).ok E (b.2 x) y c f⟩⟩
@[reducible] def cs(P:Program)(f:FuncId)(xs:List AV)(ks:List Ac)(b:List (Ac×Blk))(M:Option γ)(e:γ→AV)(k:γ→PT os β):PT os β:=
 ⟨.call (e (M.getD default)) ks (k (M.getD default)).a,fun E=>GE P E.l E.r f xs b (e (M.getD default))∧(k (M.getD default)).q E,M.bind fun y=>(k y).m,fun E=>(∀y,M=some y→GE P E.C.l E.E.r f xs b (e y))∧∀y,(k y).n E,fun E c y hm h=>by
  obtain⟨x,a,d⟩:=bind_some hm
  have g:M.getD default=x:=by rw[a];rfl
  rw[g]
  exact⟨by rw[E.hl];exact c.1 x a,(k x).ok E (c.2 x) y d h⟩⟩
@[reducible] def Dt(b:Bool)(P:Program)(f:FuncId)(xs:List AV)(ks:List Ac)(a:List (Ac×Blk))(M:Option γ)(e:γ→AV)(k:γ→PT os β):PT os β:=
 ⟨.call (e (M.getD default)) ks (k (M.getD default)).a,fun E=>(b=true→GE P E.l E.r f xs a (e (M.getD default)))∧(k (M.getD default)).q E,if(b=true→M.isSome=true)then(k (M.getD default)).m else none,fun E=>(∀y,M=some y→GE P E.C.l E.E.r f xs a (e y))∧∀y,(k y).n E,fun E d y hm i=>by
  obtain⟨g,hm⟩:=BD hm
  refine⟨fun a=>?_,(k _).ok E (d.2 _) y hm i⟩
  obtain⟨x,c⟩:=Y8.1 (g a)
  have h:M.getD default=x:=by rw[c];rfl
  rw[h,E.hl];exact d.1 x c⟩
@[reducible] def mv{α:Type}[Rw α](d q:Nat)(xs:List α)(k:PT os β)(a:Nat.ble (q+1) os=true:=by kernel_rfl):PT os β:=
 ⟨.mv d q k.a,fun E=>EI (Ae Rw.e xs)∧(q<os∧E.r.no (E.r.κ (0,q)))∧k.q E,k.m,k.n,fun E c y hm b=>
  ⟨vq _ _,⟨Yo a,by rw[E.g.no,E.g.κ];exact E.co.W q (Yo a)⟩,k.ok E c y hm b⟩⟩
@[reducible] def mvc{α:Type}[Rw α](d q e i:Nat)(xs:List α)(k:PT os β)(a:Nat.ble (q+1) os=true:=by kernel_rfl):PT os β:=
 ⟨.mvc d q e i k.a,fun E=>EI (Ae Rw.e xs)∧(q<os∧E.r.no (E.r.κ (0,q)))∧k.q E,k.m,k.n,fun E c y hm b=>
  ⟨vq _ _,⟨Yo a,by rw[E.g.no,E.g.κ];exact E.co.W q (Yo a)⟩,k.ok E c y hm b⟩⟩
end
section
variable {P:Program} {os os':Nat} {ys:List AV} {bi:List Blk} {Θ:Cl} {γ:Type} {M:Option γ} {e:γ→AV} {bs:γ→List Blk} {C:Cx} {r:Ren} {y:γ}
theorem Dg{f:FuncId}(K:KO P f os ys bi Θ M e bs)(hy:M=some y){fx:List Nat}(co:COx C os' fx)(g:Gd C r)(c m:List (Ac×Blk)){x:List (Ac×Blk)}{w:Hp}(N:∀p∈x,(w (r.κ p.1)).g=r.γ p.1+p.2.g∧(p.2.live=true→w (r.κ p.1)=AI r p.1 p.2))(v:∀p∈c,p∈x)
  {I d:List AV} (θ:Nat→AV) (R:∀i a,Θ (fun k=>k∈(c.map (·.1)).map r.κ) i a θ) (q:∀l H,BE (BV l ((c.map (·.1)).map r.κ) (Er r c) θ H) r 0 bi c) (D:bs y=bi:=by rfl) (u:bi.all Blk.live=true:=by kernel_rfl)
  (Q:∀l H,Am (BV l ((c.map (·.1)).map r.κ) (Er r c) θ H) ys=I++d:=by intro l H;kernel_rfl) (E:∀l H,ren (BV l ((c.map (·.1)).map r.κ) (Er r c) θ H) (e y)=e y:=by intro l H;kernel_rfl)
  (G:(((c++m).map (·.1)).all (Bx os')&&Gz ((c++m).map (·.1))&&Nat.beq c.length os)=true:=by kernel_rfl):Cg P (C.l+1) (fun k=>k∈(m.map (·.1)).map r.κ) w (.fn (.func f) [] d) I (e y):=by
 have B:∀b∈bi,b.live=true:=fun b x=>Yy.1 u b x
 refine⟨f,[],d,rfl,fun i a hl O=>?_⟩
 simp only[Ya,OY,List.all_append]at G
 obtain⟨⟨⟨F,T⟩,U⟩,V⟩:=G
 have n:=M9 (Si co g) _ U (by rw[List.all_append,F,T];rfl)
 rw[OY,List.nodup_append]at n
 have A:∀p∈c,a (r.κ p.1)=w (r.κ p.1):=fun p o=>by
  have hm:r.κ p.1∈(c.map (·.1)).map r.κ:=LS (LS o)
  exact O _ (RI (KZ co g _ F) _ hm) fun h=>n.2.2 _ hm _ h rfl
 have s:∀p∈c,(a (r.κ p.1)).g=r.γ p.1+p.2.g∧(p.2.live=true→a (r.κ p.1)=AI r p.1 p.2):=fun p o=>by rw[A p o];exact N p (v p o)
 have t:Hr i ((c.map (·.1)).map r.κ):=by
  have:=KZ co g (c.map (·.1)) F
  generalize (c.map (·.1)).map r.κ=ks at this
  induction ks with
  |nil=>trivial
  |cons k ks S=>exact⟨DR this.1 hl,S this.2⟩
 have:=K.k i a ((c.map (fun p:Ac×Blk=>p.1)).map r.κ) (Er r c) θ (by rw[YL,YL];exact Yc V) t n.1
  (NL bi c 0 bi (fun j=>by have:=Np bi 0 j;rwa [YP]at this⊢) (q i a) s) (R i a) y hy
 rw[G9,←Q i a]
 refine this.mono fun z W ⟨J,L⟩=>⟨J.trans (E i a),L.trans ?_⟩
 rw[D]
 exact dj bi c 0 (q i a) B fun p o hl=>(s p o).2 hl
end
theorem KP{C:Cx}{r:Ren}{os':Nat}{P:Program}{i:Nat}{xs:List AV}{y:AV}{fx:List Nat}(co:COx C os' fx)(g:Gd C r)(m:List (Ac×Blk)){l:Hp}(p:∀k:Ac,k.1≤C.l→¬r.no k→l k=r.H0 k)(h:Cg P C.l C.no C.H0 (C.θ i) xs y)
  (o:((m.map (·.1)).all (Bx os'))=true:=by kernel_rfl):Cg P (C.l+1) (fun k=>k∈(m.map (·.1)).map r.κ) l (r.θ i) xs y:=by
 rw[g.θ]
 refine ZET h (Nat.le_succ _) (fun q f d hm=>?_) fun q f d=>?_
 ·obtain⟨k,j,e⟩:=Y0.1 hm
  rw[g.κ]at e
  obtain⟨a,b⟩:=k
  rcases Fl (Yy.1 o _ j)with c|⟨c,n⟩
  ·simp only at c;subst c;rw[co.ok.own]at e;rw[←e]at f;simp only at f;omega
  ·simp only at c n;subst c;rw[←e]at d;exact d (co.W b n)
 ·rw[←g.H];exact p q f (by rw[g.no];exact d)
theorem Bl{r b:Ren}{k k':Ac}{g a:Nat}{e:EK}{sz:Nat}{cs:List AV}(h:Fo cs)(c:r.γ k+g=b.γ k'+a):AI r k ⟨g,true,e,sz,cs⟩=AI b k' ⟨a,true,e,sz,cs⟩:=by
 simp only[AI,Gq h,c]
section
variable {P:Program} {T:Nat→Option TI} {n:Nat} {C:Cx} {τ:St} {Q:Exit→St→Prop} {os k:Nat} {c:Code} {β:Type} {L:β→Prop} {y:β}
theorem Br{fx:List Nat}(co:COx C os fx)(o:A7 P T)(m:Nat)(v:PT os β)(lf:Lf)(s:v.m=some y)(j:HL L y)(p:∀r (g:Gd C r),v.n ⟨⟨C.l,r,fun _ τ'=>LO P n C c (k+m) τ' Q,fun _ _=>False⟩,L,C,_,co,g,rfl⟩)
  (q:∀l r Q b,Bf r os v.a τ (fun τ a=>F2 P T l n r ((BZ c).toList.map (·.dst)) (HA m (HJ k (BZ c).toList)) [] a (fun τ' env d=>Bf r os d (DE env τ') (fun τ _=>ER fx lf τ (Q .normal))) τ)=v.q ⟨l,r,Q,b⟩:=by intro l r Q P;kernel_rfl):LO P n C c k τ Q:=
 ZH9 co.ok o co.O co.F m v.a lf (fun r Φ=>v.q ⟨C.l,r,fun _=>Φ,fun _ _=>False⟩) (fun r Φ=>q _ r (fun _=>Φ) _) fun r e f h i=>v.ok _ (p r ⟨e,f,h,i⟩) y s j
theorem A4{fx:List Nat}(co:COx C os fx)(m:A7 P T)(v:PT os β)(lf:Lf)(q:v.m=some y)(j:HL L y)(o:∀r (g:Gd C r),v.n ⟨⟨C.l,r,Q,fun _ _=>False⟩,L,C,_,co,g,rfl⟩)
  (p:∀l r Q b,Bf r os v.a τ (fun τ a=>F2 P T l n r ((BZ c).toList.map (·.dst)) (HJ k (BZ c).toList) [] a (fun τ' env d=>Bf r os d (DE env τ') (fun τ _=>ER fx lf τ (Q .normal))) τ)=v.q ⟨l,r,Q,b⟩:=by intro l r Q P;kernel_rfl):LO P n C c k τ Q:=
 ZL8 co.ok m co.O co.F v.a lf (fun r Q=>v.q ⟨C.l,r,Q,fun _ _=>False⟩) (fun r Q=>p _ r Q _) fun r e f h i=>v.ok _ (o r ⟨e,f,h,i⟩) y q j
theorem GD{γ:Type}{M:Option γ}{o:γ→Option β}{ss:List (Nat×AV)}{hs:List (Ac×Blk)}{fx:List Nat}(co:COx C os fx)(hm:M.bind o=some y)(f:FuncId)(xs:List AV)(ks:List Ac)(b:List (Ac×Blk))(e:γ→AV)(Aw:γ→List (Ac×Blk))(fl:List Ac)
  (l:∀z,ED C (Aw z)) (d:HV (AF hs) fl) (a:∀z,M=some z→∀r,Gd C r→GA P C.l r f xs b (e z) (Aw z) [])
  (h:∀z,o z=some y→LO P n C c (k+1) (Ab (F7 (ET c k) (e z) (DD [] ss)) (Aw z++Cy ((Aw z).map (·.1)) [] fl hs)) Q)
  (j:FT c k=some (ET c k,callF c k,FV c k):=by kernel_rfl) (w:ev (AM ss) (callF c k)=.fn (.func f) [] []:=by kernel_rfl) (m:[]++(FV c k).map (ev (AM ss))++[]=xs:=by kernel_rfl) (g:(ks.map fun k=>(k,AF hs k))=b:=by kernel_rfl)
  (i:∀z,(C4 os (Aw z)&&J8 [] (Aw z)&&K2 [] fx&&GB hs&&Li n (ET c k)&&ks.all (Bx os))=true:=by intro z;kernel_rfl):LO P n C c k (Ab ss hs) Q:=by
 obtain⟨z,p,q⟩:=bind_some hm
 exact wA co.ok co.O co.F f [] [] xs j w m ks b g (e z) (Aw z) [] fl (i z) (l z) d (fun r s t u v=>a z p r ⟨s,t,u,v⟩) (h z q)
theorem c6{γ:Type}{M:Option γ}{u:γ→Option β}{ss:List (Nat×AV)}{hs:List (Ac×Blk)}{f:FuncId}{os':Nat}{ys:List AV}{bi:List Blk}{Θ:Cl}{e0:γ→AV}{bs:γ→List Blk}{fx:List Nat}(co:COx C os fx)(hm:M.bind u=some y)(K:KO P f os' ys bi Θ M e0 bs)
  (a b:List (Ac×Blk)) (e:γ→AV) (Aw:γ→List (Ac×Blk)) (fl:List Ac)
  (h:∀z,u z=some y→LO P n C c (k+1) (Ab (F7 (ET c k) (e z) (DD [] ss)) (Aw z++Cy ((Aw z).map (·.1)) [] fl hs)) Q)
  (θ:Ren→Nat→AV:=fun _=>AM []) (B:∀r,Gd C r→Th Θ C r a (a++b) (θ r):=by intro r g;exact fun _ _ _=>trivial) (xs:List AV:=[]++(FV c k).map (ev (AM ss))++[])
  (q:∀z,ED C (Aw z):=by intro z;repeat(first|exact trivial|refine⟨COx.W ‹_› _ (by decide),?_⟩))
  (j:HV (AF hs) fl:=by repeat(first|exact trivial|refine⟨AW _ _,?_⟩))
  (i:∀r H,BE (rC C r a (θ r) H) r 0 bi a:=by
   intro r H
   repeat(first|exact trivial|refine⟨fun _=>⟨rfl,Bl (AW _ _) (by kernel_rfl)⟩,by kernel_rfl,?_⟩|refine⟨fun _=>⟨rfl,Bl Ll (by kernel_rfl)⟩,by kernel_rfl,?_⟩|refine⟨fun _=>⟨rfl,by kernel_rfl⟩,by kernel_rfl,?_⟩|refine⟨(fun h=>nomatch h),by kernel_rfl,?_⟩))
  (d:∀z r H,BE (rC C r a (θ r) H) r 0 (bs z) (Aw z):=by
   intro z r H
   repeat(first|exact trivial|refine⟨fun _=>⟨rfl,Bl (AW _ _) (by kernel_rfl)⟩,by kernel_rfl,?_⟩|refine⟨fun _=>⟨rfl,Bl Ll (by kernel_rfl)⟩,by kernel_rfl,?_⟩|refine⟨fun _=>⟨rfl,by kernel_rfl⟩,by kernel_rfl,?_⟩))
  (x:∀r H,Am (rC C r a (θ r) H) ys=Am r xs:=by intro r H;kernel_rfl) (s:[]++(FV c k).map (ev (AM ss))++[]=xs:=by kernel_rfl) (t:∀z r H,ren (rC C r a (θ r) H) (e0 z)=ren r (e z):=by intro z r H;kernel_rfl)
  (p:FT c k=some (ET c k,callF c k,FV c k):=by kernel_rfl) (v:ev (AM ss) (callF c k)=.fn (.func f) [] []:=by kernel_rfl)
  (l:(((a++b).map (·.1)).map fun k=>(k,AF hs k))=a++b:=by kernel_rfl) (m:∀z,(bs z).all Blk.live=true:=by intro z;kernel_rfl) (he:∀z,a.map (·.1)=(Aw z).map (·.1):=by intro z;rfl)
  (w:((a.map (·.1)).all (Bx os)&&Gz (a.map (·.1))&&Nat.beq a.length os')=true:=by kernel_rfl)
  (o:∀z,(C4 os (Aw z)&&J8 [] (Aw z)&&K2 [] fx&&GB hs&&Li n (ET c k)&&((a++b).map (·.1)).all (Bx os))=true:=by intro z;kernel_rfl):LO P n C c k (Ab ss hs) Q:=
 GD co hm f xs _ (a++b) e Aw fl q j (fun z A r g=>DA K A co g a b (Aw z) (θ r) (B r g) (fun H=>i r H) (fun H=>d z r H) (m z) (fun H=>x r H) (fun H=>t z r H) w (he z)) h p v s l o
theorem Kg{fx:List Nat}(co:COx C os fx)(v:PT os β)(lf:Lf)(k:v.m=some y)(h:HL L y)(i:∀r (g:Gd C r),v.n ⟨⟨C.l,r,fun _ τ'=>LW P n C c τ' Q,fun _ _=>False⟩,L,C,_,co,g,rfl⟩)
  (j:∀l r Q a,Bf r os v.a τ (fun τ _=>ER fx lf τ (Q .normal))=v.q ⟨l,r,Q,a⟩:=by intro l r Q P;kernel_rfl):LW P n C c τ Q:=
 ZGW co.ok co.O co.F v.a lf (fun r Φ=>v.q ⟨C.l,r,fun _=>Φ,fun _ _=>False⟩) (fun r Φ=>j _ r (fun _=>Φ) _) fun r b d e f=>v.ok _ (i r ⟨b,d,e,f⟩) y k h
theorem rg{c:Code}(h:LO P n C c 0 τ Q)(hs:oG c=true:=by kernel_rfl):LW P n C c τ Q:=Zn1 hs h
end
end Go.Eng
