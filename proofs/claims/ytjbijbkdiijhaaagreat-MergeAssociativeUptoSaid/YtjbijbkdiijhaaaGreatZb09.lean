import Derived.Test.YtjbijbkdiijhaaaGreatZb08
import Derived.Test.YtjbijbkdiijhaaaGreatZb00
namespace Go.Eng
set_option linter.all false
open Go Go.RowKit
abbrev vL{α:Type}(e:α→List D)(xs:List α):AV:=.d (.list (xs.map e))
abbrev vS(s:ByteArray):AV:=.d (.str s)
abbrev vI(x:Int):AV:=.d (.int .i64 x)
abbrev vN(x:Nat):AV:=.d (.int .i64 (x:Int))
abbrev vB(x:Bool):AV:=.d (.bool x)
abbrev nl:Lf:=⟨[],[],[],[]⟩
abbrev pp(n:Nat):Nat×AV:=(n,.ptr (1,n) 0 0)
abbrev kk(d:Nat)(e:EK)(sz:Nat)(c:List AV):Af×Blk:=((1,d),⟨0,true,e,sz,c⟩)
abbrev nG{α β:Type}:α→List β:=fun _=>[]
theorem nH{α:Type}{p:α→Prop}:∀x,p x→p x:=fun _ h=>h
abbrev cD(l:List D):List AV:=l.map .d
abbrev AJ(ls:List Nat):Lf:=⟨ls,[],[],[]⟩
abbrev Ac(ls:List Nat)(ks:List (Af×Bool)):Lf:=⟨ls,ks,[],[]⟩
class Rw (α:Type) where
 e:α→List D
 f:α→List D
 z:α
 s:Nat
 len:∀x,(e x).length=s
 ef:∀x,e x=f x
 s0:s≠0
instance:Rw ByteArray:=⟨Bx,Bx,⟨#[]⟩,1,fun _=>rfl,fun _=>rfl,by decide⟩
instance:Rw Bool:=⟨AY,AY,false,1,fun _=>rfl,fun _=>rfl,by decide⟩
instance:Rw Raw:=⟨Av,Av,ZUG,4,fun _=>rfl,fun _=>rfl,by decide⟩
instance:Rw Val:=⟨Bb,Ag,Mp,7,fun _=>by rw[Gx];rfl,Gx,by decide⟩
instance:Rw Pr:=⟨Ap,N6,zPr,14,fun _=>by rw[Ls];rfl,Ls,by decide⟩
instance:Rw Slt:=⟨Aq,Dz,ZUA,8,fun _=>by rw[La];rfl,La,by decide⟩
instance:Rw Nt:=⟨Cg,Cg,zNt,8,fun _=>rfl,fun _=>rfl,by decide⟩
instance:Rw Fld:=⟨AB,AB,ZUJ,16,fun _=>rfl,fun _=>rfl,by decide⟩
instance:Rw Spn:=⟨CH,CH,ZU4,2,fun _=>rfl,fun _=>rfl,by decide⟩
instance:Rw Msg:=⟨AR,AR,ZVj,5,fun _=>rfl,fun _=>rfl,by decide⟩
instance:Rw Itm:=⟨Gc,Gc,ZUv,3,fun _=>rfl,fun _=>rfl,by decide⟩
instance:Rw Enm:=⟨CA,CA,ZVq,5,fun _=>rfl,fun _=>rfl,by decide⟩
instance:Rw Mth:=⟨Hz,Hz,ZUx,5,fun _=>rfl,fun _=>rfl,by decide⟩
instance:Rw Svc:=⟨Dr,Dr,ZVB,3,fun _=>rfl,fun _=>rfl,by decide⟩
instance:Rw Prb:=⟨Ao,Ao,ZUM,3,fun _=>rfl,fun _=>rfl,by decide⟩
instance (α:Type) [Rw α]:Rw (List α):=⟨fun x=>[.list (x.map Rw.e)],fun x=>[.list (x.map Rw.e)],[],1,fun _=>rfl,fun _=>rfl,by decide⟩
inductive Lv (σ ξ ρ:Type) where
 |nx (v:σ)
 |ex (b:ξ)
 |rt (y:ρ)
structure En where
 l:Nat
 r:Ren
 Q:Exit→St→Prop
 P:AV→List Blk→Prop
structure Gd (C:Cx) (r:Ren):Prop where
 θ:r.θ=C.θ
 H:r.H0=C.H0
 κ:r.κ=C.κ
 no:r.no=C.no
structure COx (C:Cx) (os:Nat) (fx:List Nat):Prop where
 ok:CxOk C
 O:C.outs=os
 F:C.fx=fx
 W:∀q,q<os→C.no (C.κ (0,q))
abbrev CO(C:Cx)(os:Nat):Prop:=COx C os (I7 os)
def HL{β:Type}(L:β→Prop)(y:β):Prop:=L y
structure Ev (os:Nat) (β:Type) where
 E:En
 L:β→Prop
 C:Cx
 fx:List Nat
 co:COx C os fx
 g:Gd C E.r
 hl:E.l=C.l
structure PT (os:Nat) (β:Type) where
 a:AT
 q:En→Prop
 m:Option β
 n:Ev os β→Prop
 ok:∀E:Ev os β,n E→∀y,m=some y→HL E.L y→q E.E
section
variable {os:Nat} {β:Type}
structure Sp where
 w:AT→AT
 p:En→Prop
 c:Prop
 d:Decidable c
 ok:c→∀E,p E
structure Sz where
 w:AT→AT
 p:En→Prop
 ok:∀E,p E
theorem BO{c:Prop}[d:Decidable c]{m:Option β}{y:β}(h:(if c then m else none)=some y):c∧m=some y:=by
 grind
theorem bind_some{γ:Type}{m:Option γ}{k:γ→Option β}{y:β}(h:m.bind k=some y):∃x,m=some x∧k x=some y:=by
 cases m with
 |none=>cases h
 |some x=>exact⟨x,rfl,h⟩
@[reducible] def vs(s:Sp)(k:PT os β):PT os β:=⟨s.w k.a,fun E=>s.p E∧k.q E,@ite _ s.c s.d k.m none,k.n,fun E d y hm c=>by
 obtain⟨a,b⟩:=@BO _ _ s.d _ _ hm
 exact⟨s.ok a E.E,k.ok E d y b c⟩⟩
@[reducible] def vg(b:Bool)(s:Sp)(k:PT os β):PT os β:=⟨s.w k.a,fun E=>(b=true→s.p E)∧k.q E,@ite _ (b=true→s.c) (@instDecidableForall _ _ _ s.d) k.m none,k.n,fun E f y hm d=>by
 obtain⟨a,c⟩:=@BO _ _ (@instDecidableForall _ _ _ s.d) _ _ hm
 exact⟨fun e=>s.ok (a e) E.E,k.ok E f y c d⟩⟩
@[reducible] def vz(s:Sz)(k:PT os β):PT os β:=⟨s.w k.a,fun E=>s.p E∧k.q E,k.m,k.n,fun E b y hm a=>⟨s.ok E.E,k.ok E b y hm a⟩⟩
@[reducible] def vy(b:Bool)(s:Sz)(k:PT os β):PT os β:=⟨s.w k.a,fun E=>(b=true→s.p E)∧k.q E,k.m,k.n,fun E c y hm a=>⟨fun _=>s.ok E.E,k.ok E c y hm a⟩⟩
@[reducible] def v2(s:Sp)(b c:En→Prop)(h:s.c→∀E,b E∧c E)(k:PT os β):PT os β:=⟨s.w k.a,fun E=>b E∧c E∧k.q E,@ite _ s.c s.d k.m none,k.n,fun E f y hm e=>by
 obtain⟨a,d⟩:=@BO _ _ s.d _ _ hm
 exact⟨(h a E.E).1,(h a E.E).2,k.ok E f y d e⟩⟩
@[reducible] def vw(w:AT→AT)(k:PT os β):PT os β:=⟨w k.a,k.q,k.m,k.n,k.ok⟩
@[reducible] def wg(k:PT os β):PT os β:=⟨.go k.a,k.q,k.m,k.n,k.ok⟩
@[reducible] def br(b:Bool)(t f:PT os β):PT os β:=⟨.br t.a f.a,fun E=>(b=true→t.q E)∧(b=false→f.q E),if b=true then t.m else f.m,fun E=>t.n E∧f.n E,fun E c y hm a=>
 ⟨fun e=>t.ok E c.1 y (by rw[Ym e]at hm;exact hm) a,fun e=>f.ok E c.2 y (by rw[Yk (by rw[e];decide)]at hm;exact hm) a⟩⟩
@[reducible] def bT(b:Bool)(t:PT os β):PT os β:=⟨.one true t.a,fun E=>(b=true→t.q E)∧(b=false→False),if b=true then t.m else none,t.n,fun E c y hm a=>by
 obtain⟨h,hm⟩:=BO hm
 exact⟨fun _=>t.ok E c y hm a,fun e=>absurd (h.symm.trans e) (by decide)⟩⟩
@[reducible] def al{α:Type}(e:α→List D)(xs:List α)(neg:Bool)(k:Bool→PT os β):PT os β:=⟨(k neg).a,fun E=>∀b:Bool,(xs.map e≠[]→b=neg)→(k b).q E,(k neg).m,
 fun E=>(∀b,(k b).n E)∧∀b,xs=[]→(k b).m=(k neg).m,fun E a y hm c b f=>by
  by_cases h:xs=[]
  ·exact(k b).ok E (a.1 b) y ((a.2 b h).trans hm) c
  ·have:b=neg:=f (by intro d;exact h (List.map_eq_nil_iff.1 d))
   subst this
   exact(k b).ok E (a.1 b) y hm c⟩
@[reducible] def dd:PT os β:=⟨.nil,fun _=>False,none,fun _=>True,fun _ _ _ h _=>by cases h⟩
@[reducible] def lf(p:En→Prop)(y:β):PT os β:=⟨.nil,p,some y,fun E=>HL E.L y→p E.E,fun E b z hm a=>b (by cases hm;exact a)⟩
@[reducible] def lc(s:St)(m:Option β):PT os β:=⟨.nil,fun E=>E.Q .normal s,m,fun E=>∀y,m=some y→HL E.L y→E.E.Q .normal s,fun E b y hm a=>b y hm a⟩
@[reducible] def Et(c:Prop)[Decidable c](p:En→Prop)(y:β):PT os β:=⟨.nil,p,if c then some y else none,fun E=>c→HL E.L y→p E.E,fun E d z hm b=>by
 obtain⟨a,hm⟩:=BO hm
 cases hm
 exact d a b⟩
@[reducible] def lr(er:β→AV)(bs:β→List Blk)(y:β):PT os β:=lf (fun E=>E.P (er y) (bs y)) y
section
variable {σ ξ ρ:Type}
@[reducible] def AA(er:ρ→AV)(bs:ρ→List Blk)(y:ρ):PT os (Lv σ ξ ρ):=lf (fun E=>E.P (er y) (bs y)) (.rt y)
@[reducible] def ln(S:σ→St)(v:σ):PT os (Lv σ ξ ρ):=lf (fun E=>E.Q .normal (S v)) (.nx v)
@[reducible] def Ai(X:ξ→Nat×St)(b:ξ):PT os (Lv σ ξ ρ):=lf (fun E=>E.Q (.exit (X b).1) (X b).2) (.ex b)
end
section
variable {α:Type} [Rw α]
@[reducible] def ix(xs:List α)(i:Nat)(k:α→PT os β):PT os β:=
 ⟨.ds (Rw.f (xs.getD i Rw.z)) (k (xs.getD i Rw.z)).a,fun E=>Jh (xs.map Rw.e) ((i:Nat):Int) (Rw.f (xs.getD i Rw.z))∧(k (xs.getD i Rw.z)).q E,xs[i]?.bind fun x=>(k x).m,fun E=>∀x,(k x).n E,fun E d y hm c=>by
  obtain⟨x,a,b⟩:=bind_some hm
  have e:xs.getD i Rw.z=x:=by rw[Yg,a];rfl
  rw[e]
  exact⟨Zsn a Rw.ef,(k x).ok E (d x) y b c⟩⟩
@[reducible] def CI(xs:List α)(i:Int)(k:α→PT os β):PT os β:=
 ⟨.ds (Rw.f (xs.getD i.toNat Rw.z)) (k (xs.getD i.toNat Rw.z)).a,fun E=>Jh (xs.map Rw.e) i (Rw.f (xs.getD i.toNat Rw.z))∧(k (xs.getD i.toNat Rw.z)).q E,if 0≤i then xs[i.toNat]?.bind fun x=>(k x).m else none,fun E=>∀x,(k x).n E,fun E g y hm d=>by
  obtain⟨b,hm⟩:=BO hm
  obtain⟨x,a,c⟩:=bind_some hm
  have e:xs.getD i.toNat Rw.z=x:=by rw[Yg,a];rfl
  have f:=(Ya.1 a).1
  exact⟨Zp0 b (by omega) Rw.ef,by rw[e];exact(k x).ok E (g x) y c d⟩⟩
@[reducible] def A1(b:Bool)(xs:List α)(i:Int)(k:α→PT os β):PT os β:=
 ⟨.ds (Rw.f (xs.getD i.toNat Rw.z)) (k (xs.getD i.toNat Rw.z)).a,fun E=>(b=true→Jh (xs.map Rw.e) i (Rw.f (xs.getD i.toNat Rw.z)))∧(k (xs.getD i.toNat Rw.z)).q E,if(b=true→0≤i∧i<xs.length)then(k (xs.getD i.toNat Rw.z)).m else none,fun E=>∀x,(k x).n E,fun E d y hm c=>by
  obtain⟨a,hm⟩:=BO hm
  exact⟨fun e=>Zp0 (a e).1 (a e).2 Rw.ef,(k _).ok E (d _) y hm c⟩⟩
@[reducible] def ca(xs:List α)(j:Nat)(k:α→PT os β):PT os β:=
 ⟨.cs ((Rw.f (xs.getD j Rw.z)).map .d) (k (xs.getD j Rw.z)).a,fun E=>DW (Ab Rw.e xs) (j*Rw.s α) ((Rw.f (xs.getD j Rw.z)).map .d)∧(k (xs.getD j Rw.z)).q E,xs[j]?.bind fun x=>(k x).m,fun E=>∀x,(k x).n E,fun E d y hm c=>by
  obtain⟨x,a,b⟩:=bind_some hm
  have e:xs.getD j Rw.z=x:=by rw[Yg,a];rfl
  rw[e]
  exact⟨Zqh a Rw.len Rw.ef,(k x).ok E (d x) y b c⟩⟩
theorem wC{xs:List α}{j o m:Nat}(a:Nat.ble (o+m) (Rw.s α)=true)(h:j<xs.length):DW (Ab Rw.e xs) (j*Rw.s α+o) ((((Rw.f (xs.getD j Rw.z)).map AV.d).drop o).take m):=by
 have hl:((Rw.f (xs.getD j Rw.z)).map AV.d).length=Rw.s α:=by rw[YH,←Rw.ef,Rw.len]
 have a:=Yh a
 exact ZlU h Rw.len Rw.ef (by rw[YD,Dv,hl,FD (by omega)]) (by rw[YD,Dv,hl];omega)
@[reducible] def cp(xs:List α)(j o m:Nat)(k:α→PT os β)(f:Nat.ble (o+m) (Rw.s α)=true:=by kernel_rfl):PT os β:=
 ⟨.cs ((((Rw.f (xs.getD j Rw.z)).map AV.d).drop o).take m) (k (xs.getD j Rw.z)).a,fun E=>DW (Ab Rw.e xs) (j*Rw.s α+o) ((((Rw.f (xs.getD j Rw.z)).map AV.d).drop o).take m)∧(k (xs.getD j Rw.z)).q E,xs[j]?.bind fun x=>(k x).m,fun E=>∀x,(k x).n E,fun E d y hm c=>by
  obtain⟨x,a,b⟩:=bind_some hm
  have e:xs.getD j Rw.z=x:=by rw[Yg,a];rfl
  exact⟨wC f (Ya.1 a).1,by rw[e];exact(k x).ok E (d x) y b c⟩⟩
@[reducible] def Fq(b:Bool)(xs:List α)(j:Nat)(k:α→PT os β):PT os β:=
 ⟨.cs ((Rw.f (xs.getD j Rw.z)).map .d) (k (xs.getD j Rw.z)).a,fun E=>(b=true→DW (Ab Rw.e xs) (j*Rw.s α) ((Rw.f (xs.getD j Rw.z)).map .d))∧(k (xs.getD j Rw.z)).q E,if(b=true→j<xs.length)then(k (xs.getD j Rw.z)).m else none,fun E=>∀x,(k x).n E,fun E d y hm c=>by
  obtain⟨a,hm⟩:=BO hm
  exact⟨fun e=>zp (a e) Rw.len Rw.ef,(k _).ok E (d _) y hm c⟩⟩
@[reducible] def cpg(b:Bool)(xs:List α)(j o m:Nat)(k:α→PT os β)(f:Nat.ble (o+m) (Rw.s α)=true:=by kernel_rfl):PT os β:=
 ⟨.cs ((((Rw.f (xs.getD j Rw.z)).map AV.d).drop o).take m) (k (xs.getD j Rw.z)).a,fun E=>(b=true→DW (Ab Rw.e xs) (j*Rw.s α+o) ((((Rw.f (xs.getD j Rw.z)).map AV.d).drop o).take m))∧(k (xs.getD j Rw.z)).q E,if(b=true→j<xs.length)then(k (xs.getD j Rw.z)).m else none,fun E=>∀x,(k x).n E,fun E d y hm c=>by
  obtain⟨a,hm⟩:=BO hm
  exact⟨fun e=>wC f (a e),(k _).ok E (d _) y hm c⟩⟩
@[reducible] def st(xs:List α)(j:Nat)(y:α):Sp:=⟨.cs (Ab Rw.e (xs.set j y)),fun _=>HK (Ab Rw.e xs) (j*Rw.s α) ((Rw.f y).map .d) (Ab Rw.e (xs.set j y)),j<xs.length,inferInstance,fun h _=>ZBT h Rw.len Rw.ef⟩
@[reducible] def An(xs:List α):Sz:=⟨.num ((xs.length:Nat):Int),fun _=>BN ((xs.map (Rw.e (α:=α))).length:Nat) ((xs.length:Nat):Int),fun _=>ZEa _ _⟩
@[reducible] def fl(xs:List α):Sz:=⟨id,fun _=>Il (Ab Rw.e xs),fun _=>Aw _ _⟩
@[reducible] def fz(xs:List α):Sz:=⟨id,fun _=>HI (Ab Rw.e xs) 0 xs.length (Rw.s α) (xs.map Rw.e),fun _=>l9 _ Rw.s0 Rw.len⟩
@[reducible] def fr(xs:List α):Sz:=⟨.av (.d (.list (xs.map Rw.e))),fun _=>HI (Ab Rw.e xs) 0 xs.length (Rw.s α) (xs.map Rw.e),fun _=>l9 _ Rw.s0 Rw.len⟩
@[reducible] def ap(xs:List α)(y:α)(k:PT os β):PT os β:=⟨.nat 1 (.cs (Ab Rw.e [y]) (.cs (Ab Rw.e (xs++[y])) (.nat (xs++[y]).length k.a))),
 fun E=>Ej (Rw.s α) [] (.d (.list [Rw.f y])) 1 (Ab Rw.e [y])∧Kn (Ab Rw.e xs) 0 xs.length 1 (Rw.s α) 256 (Ab Rw.e [y]) (Ab Rw.e (xs++[y])) (xs++[y]).length∧k.q E,
 if xs.length<549755813887 then k.m else none,k.n,fun E b z hm a=>by
  obtain⟨c,hm⟩:=BO hm
  exact⟨Zlr _ Rw.len Rw.ef,VU xs [y] Rw.len rfl rfl (by rw[I3];omega),k.ok E b z hm a⟩⟩
@[reducible] def aq(xs ys:List α)(k:PT os β):PT os β:=⟨.nat ys.length (.cs (Ab Rw.e ys) (.cs (Ab Rw.e (xs++ys)) (.nat (xs++ys).length k.a))),
 fun E=>Ej (Rw.s α) [] (.d (.list (ys.map Rw.e))) ys.length (Ab Rw.e ys)∧Kn (Ab Rw.e xs) 0 xs.length ys.length (Rw.s α) 256 (Ab Rw.e ys) (Ab Rw.e (xs++ys)) (xs++ys).length∧k.q E,
 if xs.length+ys.length<549755813888 then k.m else none,k.n,fun E b z hm a=>by
  obtain⟨c,hm⟩:=BO hm
  exact⟨VP _ _ Rw.len,VU xs ys Rw.len rfl rfl (by omega),k.ok E b z hm a⟩⟩
@[reducible] def pZ(x:α)(ys:List α)(k:PT os β):PT os β:=⟨.nat ys.length (.cs (Ab Rw.e ys) (.cs (Ab Rw.e ([x]++ys)) (.nat ([x]++ys).length k.a))),
 fun E=>Ej (Rw.s α) [] (.d (.list (ys.map Rw.e))) ys.length (Ab Rw.e ys)∧Kn ((Rw.f x).map .d) 0 1 ys.length (Rw.s α) 256 (Ab Rw.e ys) (Ab Rw.e ([x]++ys)) ([x]++ys).length∧k.q E,
 if ys.length<549755813887 then k.m else none,k.n,fun E b z hm a=>by
  obtain⟨c,hm⟩:=BO hm
  have e:(Rw.f x).map AV.d=Ab Rw.e [x]:=by rw[←Rw.ef x];simp[Ab]
  rw[e]
  exact⟨VP _ _ Rw.len,VU [x] ys Rw.len rfl rfl (by rw[I3];omega),k.ok E b z hm a⟩⟩
@[reducible] def ar(xs ys:List α)(kk:Af)(g:Nat)(k:PT os β):PT os β:=⟨.nat ys.length (.cs (Ab Rw.e ys) (.cs (Ab Rw.e (xs++ys)) (.nat (xs++ys).length k.a))),
 fun E=>Ej (Rw.s α) (Ab Rw.e ys) (.ref kk g 0 ys.length) ys.length (Ab Rw.e ys)∧Kn (Ab Rw.e xs) 0 xs.length ys.length (Rw.s α) 256 (Ab Rw.e ys) (Ab Rw.e (xs++ys)) (xs++ys).length∧k.q E,
 if xs.length+ys.length<549755813888 then k.m else none,k.n,fun E b z hm a=>by
  obtain⟨c,hm⟩:=BO hm
  exact⟨Zzr _ _ _ Rw.len,VU xs ys Rw.len rfl rfl (by omega),k.ok E b z hm a⟩⟩
@[reducible] def a1(y:α)(k:PT os β):PT os β:=⟨.nat 1 (.cs (Ab Rw.e [y]) k.a),fun E=>Ej (Rw.s α) [] (.d (.list [Rw.f y])) 1 (Ab Rw.e [y])∧Pf 1 256∧k.q E,k.m,k.n,fun E b z hm a=>⟨Zlr _ Rw.len Rw.ef,by unfold Pf;decide,k.ok E b z hm a⟩⟩
@[reducible] def a0(ys:List α)(k:PT os β):PT os β:=⟨.nat ys.length (.cs (Ab Rw.e ys) k.a),fun E=>Ej (Rw.s α) [] (.d (.list (ys.map Rw.e))) ys.length (Ab Rw.e ys)∧Pf ys.length 256∧k.q E,if ys.length<549755813888 then k.m else none,k.n,fun E b z hm a=>by
  obtain⟨c,hm⟩:=BO hm
  exact⟨VP _ _ Rw.len,by unfold Pf;omega,k.ok E b z hm a⟩⟩
@[reducible] def ms(m:Nat)(z:α)(a:List AV)(d:(Rw.e z).map .d=a)(k:PT os β):PT os β:=⟨.nat (List.replicate m z).length (.cs (Ab Rw.e (List.replicate m z)) k.a),
 fun E=>ab ((m:Nat):Int) ((m:Nat):Int) 256 (List.replicate m z).length a (Ab Rw.e (List.replicate m z))∧k.q E,if m≤549755813888 then k.m else none,k.n,fun E c y hm b=>by
  obtain⟨e,hm⟩:=BO hm
  exact⟨⟨by rw[rl],Tm _,by omega,by rw[rl];exact ZJb d m⟩,k.ok E c y hm b⟩⟩
@[reducible] def msr(m:Nat)(a:List AV)(k:PT os β):PT os β:=⟨.nat m (.cs (List.replicate m a).flatten k.a),
 fun E=>ab ((m:Nat):Int) ((m:Nat):Int) 256 m a (List.replicate m a).flatten∧k.q E,if m≤549755813888 then k.m else none,k.n,fun E c y hm b=>by
  obtain⟨d,hm⟩:=BO hm
  exact⟨⟨rfl,Tm _,by omega,rfl⟩,k.ok E c y hm b⟩⟩
@[reducible] def cpr(n m:Nat)(a:List AV)(ys:List α)(h:a.length=Rw.s α)(k:PT os β):PT os β:=⟨.nat ys.length (.cs (Ab Rw.e ys) (.cs (Ab Rw.e ys) k.a)),
 fun E=>Ej (Rw.s α) [] (.d (.list (ys.map Rw.e))) ys.length (Ab Rw.e ys)∧ys.length≤n∧HK (List.replicate m a).flatten (0*Rw.s α) (Ab Rw.e ys) (Ab Rw.e ys)∧k.q E,if ys.length≤n∧m=ys.length then k.m else none,k.n,fun E g y hm f=>by
  obtain⟨⟨d,e⟩,hm⟩:=BO hm
  have b:(List.replicate m a).flatten.length=ys.length*Rw.s α:=by rw[←e,←h];simp[List.length_flatten]
  have c:=FP Rw.len ys
  refine⟨VP _ _ Rw.len,d,⟨by rw[b,c];omega,?_⟩,k.ok E g y hm f⟩
  rw[Kl,List.take_zero,Fy,YO,ax (by rw[b,c];exact Yf _),G4]⟩
@[reducible] def rn(j d n:Nat)(xs:List α)(k:PT os β):PT os β:=⟨.reb j d xs.length (Ab Rw.e xs) k.a,
 fun E=>(n=xs.length∧0*Rw.s α≤(Ab (Rw.e (α:=α)) xs).length∧(Ab Rw.e xs).drop (0*Rw.s α)=Ab Rw.e xs)∧k.q E,if n=xs.length then k.m else none,k.n,fun E c y hm b=>by
  obtain⟨a,hm⟩:=BO hm
  exact⟨⟨a,by rw[Kl];exact CK _,by rw[Kl];rfl⟩,k.ok E c y hm b⟩⟩
@[reducible] def Fr(n:Nat)(xs:List α):Sp:=⟨.av (.d (.list (xs.map Rw.e))),fun _=>HI (Ab Rw.e xs) 0 n (Rw.s α) (xs.map Rw.e),n=xs.length,inferInstance,fun h _=>ZJP h (l9 _ Rw.s0 Rw.len)⟩
@[reducible] def D5(xs:List α)(j a:Nat)(vs:List D)(Y:α→α)(he:∀x,Rw.e (Y x)=(Rw.e x).take a++vs++(Rw.e x).drop (a+vs.length))(k:List α→PT os β)(f:Nat.ble (a+vs.length) (Rw.s α)=true:=by kernel_rfl):PT os β:=
 ⟨.cs (Ab Rw.e (xs.set j (Y (xs.getD j Rw.z)))) (k (xs.set j (Y (xs.getD j Rw.z)))).a,fun E=>HK (Ab Rw.e xs) (j*Rw.s α+a) (vs.map .d) (Ab Rw.e (xs.set j (Y (xs.getD j Rw.z))))∧(k (xs.set j (Y (xs.getD j Rw.z)))).q E,xs[j]?.bind fun x=>(k (xs.set j (Y x))).m,fun E=>∀l,(k l).n E,fun E g y hm d=>by
  obtain⟨x,b,c⟩:=bind_some hm
  have e:xs.getD j Rw.z=x:=by rw[Yg,b];rfl
  exact⟨Zyl (Ya.1 b).1 Rw.len (Yh f) (he _),by rw[e];exact(k _).ok E (g _) y c d⟩⟩
@[reducible] def rb(j d n:Nat)(xs:List α)(off:Nat)(k:PT os β):PT os β:=⟨.reb j d (xs.drop off).length (Ab Rw.e (xs.drop off)) k.a,
 fun E=>(n=(xs.drop off).length∧off*Rw.s α≤(Ab (Rw.e (α:=α)) xs).length∧(Ab Rw.e xs).drop (off*Rw.s α)=Ab Rw.e (xs.drop off))∧k.q E,if n=(xs.drop off).length∧off≤xs.length then k.m else none,k.n,fun E c y hm b=>by
  obtain⟨a,hm⟩:=BO hm
  exact⟨ZFr a.1 a.2 Rw.len,k.ok E c y hm b⟩⟩
end
@[reducible] def BY(q:Nat)(vs:List AV)(low:∀r:Ren,F8 r (0,q) vs)(k:PT os β)(c:Nat.ble (q+1) os=true:=by kernel_rfl):PT os β:=
 ⟨k.a,fun E=>L4 E.r (0,q)∧F8 E.r (0,q) vs∧k.q E,k.m,k.n,fun E b y hm a=>⟨⟨rfl,by rw[E.g.no,E.g.κ];exact E.co.W q (Yh c)⟩,low _,k.ok E b y hm a⟩⟩
inductive Bd
 |no
 |nt (n:Nat)
 |it (x:Int)
def Bd.ov:Bd→Option AV
 |.no=>none
 |.nt n=>some (.d (.int .i64 (n:Int)))
 |.it x=>some (.d (.int .i64 x))
def Bd.vl(d:Nat):Bd→Nat
 |.no=>d
 |.nt n=>n
 |.it x=>x.toNat
def Bd.c:Bd→Prop
 |.it x=>0≤x
 |_=>True
instance (b:Bd):Decidable b.c:=by cases b<;>unfold Bd.c<;>infer_instance
theorem Bd.ok{d:Nat}{b:Bd}(h:b.c):D8 d b.ov (b.vl d):=by
 cases b with
 |no=>rfl
 |nt n=>rfl
 |it x=>exact(Int.toNat_of_nonneg h).symm
@[reducible] def ss(s:ByteArray)(lo hi:Bd)(k:ByteArray→PT os β):PT os β:=
 ⟨.nat (lo.vl 0) (.nat (hi.vl s.size) (k (s.extract (lo.vl 0) (hi.vl s.size))).a),fun E=>D8 0 lo.ov (lo.vl 0)∧D8 s.size hi.ov (hi.vl s.size)∧Gl (lo.vl 0) (hi.vl s.size) s.size∧(k (s.extract (lo.vl 0) (hi.vl s.size))).q E,
 if lo.c∧hi.c∧lo.vl 0≤hi.vl s.size∧hi.vl s.size≤s.size then(k (s.extract (lo.vl 0) (hi.vl s.size))).m else none,fun E=>∀x,(k x).n E,fun E c y hm b=>by
  obtain⟨a,hm⟩:=BO hm
  exact⟨Bd.ok a.1,Bd.ok a.2.1,a.2.2,(k _).ok E (c _) y hm b⟩⟩
section
variable {α:Type} [Rw α]
@[reducible] def sL(xs:List α)(lo hi:Bd)(k:List α→PT os β):PT os β:=
 ⟨.nat (lo.vl 0) (.nat (hi.vl xs.length) (.av (.d (.list (((xs.drop (lo.vl 0)).take (hi.vl xs.length-lo.vl 0)).map Rw.e))) (k ((xs.drop (lo.vl 0)).take (hi.vl xs.length-lo.vl 0))).a)),
 fun E=>D8 0 lo.ov (lo.vl 0)∧D8 (xs.map (Rw.e (α:=α))).length hi.ov (hi.vl xs.length)∧Gl (lo.vl 0) (hi.vl xs.length) (xs.map (Rw.e (α:=α))).length∧SX (xs.map Rw.e) (Rw.s α) (lo.vl 0) (hi.vl xs.length) (((xs.drop (lo.vl 0)).take (hi.vl xs.length-lo.vl 0)).map Rw.e)∧(k ((xs.drop (lo.vl 0)).take (hi.vl xs.length-lo.vl 0))).q E,
 if lo.c∧hi.c∧lo.vl 0≤hi.vl xs.length∧hi.vl xs.length≤xs.length then(k ((xs.drop (lo.vl 0)).take (hi.vl xs.length-lo.vl 0))).m else none,fun E=>∀x,(k x).n E,fun E c y hm b=>by
  obtain⟨a,hm⟩:=BO hm
  exact⟨Bd.ok a.1,by rw[YH];exact Bd.ok a.2.1,ZHt a.2.2,ZGX Rw.len,(k _).ok E (c _) y hm b⟩⟩
end
@[reducible] def sR(len off:Nat)(lo hi:Bd)(k:PT os β):PT os β:=
 ⟨.nat (lo.vl 0) (.nat (hi.vl len) (.nat (off+lo.vl 0) (.nat (hi.vl len-lo.vl 0) k.a))),fun E=>D8 0 lo.ov (lo.vl 0)∧D8 len hi.ov (hi.vl len)∧Gl (lo.vl 0) (hi.vl len) len∧ac off (lo.vl 0) (hi.vl len) (off+lo.vl 0) (hi.vl len-lo.vl 0)∧k.q E,
 if lo.c∧hi.c∧lo.vl 0≤hi.vl len∧hi.vl len≤len then k.m else none,k.n,fun E c y hm b=>by
  obtain⟨a,hm⟩:=BO hm
  exact⟨Bd.ok a.1,Bd.ok a.2.1,a.2.2,⟨rfl,rfl⟩,k.ok E c y hm b⟩⟩
@[reducible] def BH(n:Nat):Sz:=⟨.num ((n:Nat):Int),fun _=>BN ((n:Nat):Int) ((n:Nat):Int),fun _=>rfl⟩
@[reducible] def wa(a b:Nat):Sp:=⟨.num ((a+b:Nat):Int),fun _=>Cz .i64 (((a:Nat):Int)+((b:Nat):Int)) ((a+b:Nat):Int),a+b<9223372036854775808,inferInstance,fun h _=>nA (by omega) (by omega) (by omega)⟩
@[reducible] def wm(a b:Nat):Sp:=⟨.num ((a*b:Nat):Int),fun _=>Cz .i64 (((a:Nat):Int)*((b:Nat):Int)) ((a*b:Nat):Int),a*b<9223372036854775808,inferInstance,fun h _=>nA (by simp) (by omega) (by omega)⟩
@[reducible] def wi(x:Int):Sp:=⟨.num x,fun _=>Cz .i64 x x,-9223372036854775808≤x∧x<9223372036854775808,inferInstance,fun h _=>nA rfl h.1 h.2⟩
@[reducible] def wk(i:IntKind)(x:Int):Sz:=⟨.num (i.wrap x),fun _=>Cz i x (i.wrap x),fun _=>rfl⟩
@[reducible] def ir(i len sz:Nat):Sp:=⟨.nat (i*sz),fun _=>ME ((i:Nat):Int) len 0 sz (i*sz),i<len,inferInstance,fun h _=>ZTg h⟩
@[reducible] def AI(i:Int)(len sz:Nat):Sp:=⟨.nat (i.toNat*sz),fun _=>ME i len 0 sz (i.toNat*sz),0≤i∧i<len,inferInstance,fun h _=>ZtE h.1 h.2⟩
@[reducible] def ib(s:ByteArray)(i:Nat)(k:UInt8→PT os β):PT os β:=
 ⟨.num ((s.data.toList.getD i 0).toNat:Nat) (k (s.data.toList.getD i 0)).a,fun E=>Jl s (i:Nat) ((s.data.toList.getD i 0).toNat:Nat)∧(k (s.data.toList.getD i 0)).q E,s.data.toList[i]?.bind fun x=>(k x).m,fun E=>∀x,(k x).n E,fun E f y hm d=>by
  obtain⟨x,b,c⟩:=bind_some hm
  have e:s.data.toList.getD i 0=x:=by rw[Yg,b];rfl
  have a:=(Ya.1 b).1
  exact⟨ZsG (by simpa using a),by rw[e];exact(k x).ok E (f x) y c d⟩⟩
@[reducible] def Gi(b:Bool)(s:ByteArray)(i:Int)(k:UInt8→PT os β):PT os β:=
 ⟨.num ((s.data.toList.getD i.toNat 0).toNat:Nat) (k (s.data.toList.getD i.toNat 0)).a,fun E=>(b=true→Jl s i ((s.data.toList.getD i.toNat 0).toNat:Nat))∧(k (s.data.toList.getD i.toNat 0)).q E,if(b=true→0≤i∧i<s.size)then(k (s.data.toList.getD i.toNat 0)).m else none,fun E=>∀x,(k x).n E,fun E d y hm c=>by
  obtain⟨a,hm⟩:=BO hm
  exact⟨fun e=>ZoI (a e).1 (a e).2,(k _).ok E (d _) y hm c⟩⟩
@[reducible] def Sn(s:ByteArray)(i:Int)(k:UInt8→PT os β):PT os β:=
 ⟨.num ((s.data.toList.getD i.toNat 0).toNat:Nat) (k (s.data.toList.getD i.toNat 0)).a,fun E=>Jl s i ((s.data.toList.getD i.toNat 0).toNat:Nat)∧(k (s.data.toList.getD i.toNat 0)).q E,if 0≤i∧i<s.size then(k (s.data.toList.getD i.toNat 0)).m else none,fun E=>∀x,(k x).n E,fun E c y hm b=>by
  obtain⟨a,hm⟩:=BO hm
  exact⟨ZoI a.1 a.2,(k _).ok E (c _) y hm b⟩⟩
@[reducible] def ad(a b:ByteArray)(k:ByteArray→PT os β):PT os β:=⟨(k (a++b)).a,fun E=>yB a b∧(k (a++b)).q E,if a.size+b.size≤9223372036854775807 then(k (a++b)).m else none,fun E=>∀x,(k x).n E,fun E e y hm d=>by
  obtain⟨c,hm⟩:=BO hm
  exact⟨c,(k _).ok E (e _) y hm d⟩⟩
@[reducible] def qq(k:IntKind)(x y:Int):Sz:=⟨.num (Dq k x y),fun _=>BN (Dq k x y) (Dq k x y),fun _=>rfl⟩
@[reducible] def wor(k:IntKind)(x y:Int):Sz:=⟨.num (GW k x y),fun _=>BN (GW k x y) (GW k x y),fun _=>rfl⟩
@[reducible] def wcp(k:IntKind)(x:Int):Sz:=⟨.num (Jr k x),fun _=>BN (Jr k x) (Jr k x),fun _=>rfl⟩
def Ak(k:IntKind)(x y:Int):Int:=x.fdiv (2^(min y.toNat k.bits))
def yM(k:IntKind)(x y:Int):Int:=k.wrap (x*2^(min y.toNat k.bits))
def x2(k:IntKind)(x y:Int):Int:=k.wrap (x.tdiv y)
def Jk(_:IntKind)(x y:Int):Int:=x.tmod y
@[reducible] def shr(i:IntKind)(x y:Int)(k:PT os β):PT os β:=v2 ⟨.num (Ak i x y),fun _=>True,0≤y,inferInstance,fun _ _=>trivial⟩ (fun _=>SS 0 y) (fun _=>BN (x.fdiv (2^(min y.toNat i.bits))) (Ak i x y)) (fun h _=>⟨h,rfl⟩) k
@[reducible] def shl(i:IntKind)(x y:Int)(k:PT os β):PT os β:=v2 ⟨.num (yM i x y),fun _=>True,0≤y,inferInstance,fun _ _=>trivial⟩ (fun _=>SS 0 y) (fun _=>Cz i (x*2^(min y.toNat i.bits)) (yM i x y)) (fun h _=>⟨h,rfl⟩) k
@[reducible] def quo(i:IntKind)(x y:Int)(k:PT os β):PT os β:=v2 ⟨.num (x2 i x y),fun _=>True,y≠0,inferInstance,fun _ _=>trivial⟩ (fun _=>SV y 0) (fun _=>Cz i (x.tdiv y) (x2 i x y)) (fun h _=>⟨h,rfl⟩) k
@[reducible] def rem(i:IntKind)(x y:Int)(k:PT os β):PT os β:=v2 ⟨.num (Jk i x y),fun _=>True,y≠0,inferInstance,fun _ _=>trivial⟩ (fun _=>SV y 0) (fun _=>BN (x.tmod y) (Jk i x y)) (fun h _=>⟨h,rfl⟩) k
@[reducible] def sy(w:AT→AT)(p:En→Prop)(h:∀E,p E):Sz:=⟨w,p,h⟩
structure KC (P:Program) (f:FuncId) (xs:List AV) {γ:Type} (M:Option γ) (e:γ→AV):Prop where
 k:∀l H y,M=some y→Zc1 P f l xs H (fun z H'=>z=e y∧H'=H)
 x:∀r,As r xs=xs
 e:∀r y,ren r (e y)=e y
@[reducible] def cl{P:Program}{f:FuncId}{xs:List AV}{γ:Type}[Inhabited γ]{M:Option γ}{e:γ→AV}(K:KC P f xs M e)(k:γ→PT os β):PT os β:=
 ⟨.call (e (M.getD default)) [] (k (M.getD default)).a,fun E=>If P E.l E.r f xs [] (e (M.getD default))∧(k (M.getD default)).q E,M.bind fun y=>(k y).m,fun E=>∀y,(k y).n E,fun E h y hm g=>by
  obtain⟨x,a,c⟩:=bind_some hm
  have d:M.getD default=x:=by rw[a];rfl
  rw[d]
  exact⟨fun b _ _=>by rw[K.x,K.e];exact K.k _ b x a,(k x).ok E (h x) y c g⟩⟩
@[reducible] def AP(b:Bool){P:Program}{f:FuncId}{xs:List AV}{γ:Type}[Inhabited γ]{M:Option γ}{e:γ→AV}(K:KC P f xs M e)(k:γ→PT os β):PT os β:=
 ⟨.call (e (M.getD default)) [] (k (M.getD default)).a,fun E=>(b=true→If P E.l E.r f xs [] (e (M.getD default)))∧(k (M.getD default)).q E,if(b=true→M.isSome=true)then(k (M.getD default)).m else none,fun E=>∀y,(k y).n E,fun E j y hm h=>by
  obtain⟨d,hm⟩:=BO hm
  refine⟨fun i c _ _=>?_,(k _).ok E (j _) y hm h⟩
  obtain⟨x,a⟩:=YP.1 (d i)
  have g:M.getD default=x:=by rw[a];rfl
  rw[K.x,K.e,g];exact K.k _ c x a⟩
theorem KC.nrm{P:Program}{f:FuncId}{xs xs':List AV}{γ:Type}{M:Option γ}{e:γ→AV}(K:KC P f xs M e)(h:∀l H Post,Zc1 P f l xs H Post→Zc1 P f l xs' H Post)(hx:∀r,As r xs'=xs'):KC P f xs' M e:=⟨fun l H y hm=>h _ _ _ (K.k l H y hm),hx,K.e⟩
end
section
variable {P:Program} {T:Nat→Option TI} {n:Nat} {C:Cx} {τ σ:St} {Q:Exit→St→Prop} {os:Nat} {p:List Nat} {b:Code}
def pa:List Nat→Code→Code
 |[],c=>c
 |i::p,c=>IP [i] (pa p c)
def ZSt:Code→Bool
 |.seq _ _=>true
 |_=>false
def ZSZ(i:Nat):Code→Bool
 |.block j _=>Nat.beq j i
 |_=>false
def ZTd:Code→Bool
 |.cond _ _ _=>true
 |_=>false
def ZSw:Code→Bool
 |.loop _=>true
 |_=>false
theorem sq(h:LW P n C (pa (0::p) b) τ (fun e τ'=>match e with|.normal=>LW P n C (pa (1::p) b) τ' Q|e=>Q e τ'))(hs:ZSt (pa p b)=true:=by kernel_rfl):LW P n C (pa p b) τ Q:=by
 unfold pa at h
 generalize pa p b=c at*
 cases c with
 |seq x y=>exact ZM0 h
 |_=>cases hs
def UA(P:Program)(T:Nat→Option TI)(l n os:Nat)(r:Ren):Nat→Code→AT→St→(Exit→St→AT→Prop)→Prop
 |0,_,a,τ,K=>K .normal τ a
 |m+1,.seq x y,a,τ,K=>Da P T l n os r x a τ (fun e τ' b=>match e with|.normal=>UA P T l n os r m y b τ' K|e=>K e τ' b)
 |_,_,_,_,_=>False
def Of:Nat→Code→Code
 |m+1,.seq _ y=>Of m y
 |_,c=>c
def up:Nat→List Nat→List Nat
 |0,p=>p
 |m+1,p=>up m (1::p)
def ZJ:Nat→Code→Bool
 |m+1,.seq _ y=>ZJ m y
 |0,_=>true
 |_,_=>false
theorem tk:∀(m:Nat) (p:List Nat),ZJ m (pa p b)=true→Of m (pa p b)=pa (up m p) b
 |0,p,_=>by
  show Of 0 (pa p b)=pa p b
  cases pa p b<;>rfl
 |m+1,p,h=>by
  have a:=tk m (1::p)
  have e:pa (1::p) b=IP [1] (pa p b):=rfl
  show Of (m+1) (pa p b)=pa (up m (1::p)) b
  generalize pa p b=c at*
  cases c with
  |seq x y=>
   have e:pa (1::p) b=y:=e
   rw[e]at a
   exact a h
  |_=>cases h
theorem zO(o:CxOk C)(q:Bl P T)(hm:P.follows .mixedOrders=true){γ:Af→Nat}{QQ:Exit→St→Prop}(r:∀e σ b,QQ e b→Wk n C σ b→QQ e σ):∀(m:Nat) (c:Code) (a:AT) (τ σ:St) (K:Exit→St→AT→Prop),UA P T C.l n C.outs (C.r γ) m c a τ K→RG (C.r γ) C.l C.outs [] τ σ→
  (∀τ' d b,K .normal τ' d→RG (C.r γ) C.l C.outs [] τ' b→BR P C.l n C.B (Of m c) QQ b)→(∀e τ' d b,e≠.normal→K e τ' d→RG (C.r γ) C.l C.outs [] τ' b→QQ e b)→BR P C.l n C.B c QQ σ
 |0,c,a,τ,σ,K,h,f,g,_=>by
  have:=g τ a σ h f
  have e:Of 0 c=c:=by cases c<;>rfl
  grind
 |m+1,c,a,τ,σ,K,h,f,g,p=>by
  cases c with
  |seq x y=>
   refine kV (H6 (Gt o q hm x a τ σ _ h f) fun e b hi=>?_)
   obtain⟨τ',d,i,j,k,l⟩:=hi
   cases e with
   |normal=>exact BR.weak (zO o q hm r m y d τ' i K j k g p) l
   |_=>exact r _ _ _ (p _ _ _ _ (by intro e;cases e) j k) l
  |_=>exact h.elim
variable {β:Type} {Post:AV→List Blk→Prop} {rs:List ResultVar} {L:β→Prop} {y:β}
theorem Ax{fx:List Nat}(co:COx C os fx)(i:Bl P T)(hm:P.follows .mixedOrders=true){c:Code}(v:PT os β)(h:v.m=some y)(f:HL L y)
  (j:∀r (g:Gd C r),v.n ⟨⟨C.l,r,fun _ _=>False,Post⟩,L,C,_,co,g,rfl⟩) (k:∀l r Q Post,Da P T l n os r c v.a τ (KF T rs os Post)=v.q ⟨l,r,Q,Post⟩:=by intro l r Q P;kernel_rfl):LW P n C c τ (FQ T rs os Post):=
 ZEu co.ok i hm co.O v.a rs (fun r Post=>v.q ⟨C.l,r,fun _ _=>False,Post⟩) (fun r Post=>k _ r _ Post) fun r a b d e=>v.ok _ (j r ⟨a,b,d,e⟩) y h f
theorem At{fx:List Nat}(co:COx C os fx)(k:Bl P T)(hm:P.follows .mixedOrders=true){c:Code}(v:PT os β)(lf a:Lf)(j:∀τ,FQ T rs os Post .ret τ→Q .ret τ)(h:v.m=some y)(i:HL L y)
  (m:∀r (g:Gd C r),v.n ⟨⟨C.l,r,Q,Post⟩,L,C,_,co,g,rfl⟩) (o:∀l r Q Post,Da P T l n os r c v.a τ (KB T rs os fx r Post lf a Q)=v.q ⟨l,r,Q,Post⟩:=by intro l r Q P;kernel_rfl):LW P n C c τ Q:=
 ZET co.ok k hm co.O co.F v.a lf a rs (fun r Q Post=>v.q ⟨C.l,r,Q,Post⟩) (o _) j fun r b d e f=>v.ok _ (m r ⟨b,d,e,f⟩) y h i
theorem Aj{fx:List Nat}(co:COx C os fx)(I:Bl P T)(hm:P.follows .mixedOrders=true)(m:Nat)(v:PT os β)(lf O:Lf)(H:∀τ,FQ T rs os Post .ret τ→Q .ret τ)(M:v.m=some y)(G:HL L y)
  (J:∀r (g:Gd C r),v.n ⟨⟨C.l,r,fun e τ'=>match e with|.normal=>LW P n C (pa (up m p) b) τ' Q|e=>Q e τ',Post⟩,L,C,_,co,g,rfl⟩)
  (K:∀l r Q Post,UA P T l n os r m (pa p b) v.a τ (KB T rs os fx r Post lf O Q)=v.q ⟨l,r,Q,Post⟩:=by intro l r Q P;kernel_rfl) (hl:ZJ m (pa p b)=true:=by kernel_rfl):LW P n C (pa p b) τ Q:=by
 intro γ σ u F
 have s:=v.ok _ (J (C.r γ) ⟨rfl,rfl,rfl,rfl⟩) y M G
 rw[←K]at s
 generalize v.a=a at s
 rw[←co.O,←co.F]at s
 refine zO co.ok I hm (QQ:=fun e σ=>Is n C (Q e) σ) (fun e σ D hi hw=>?_) m _ _ _ _ _ s F (fun τ' q D d c=>?_) (fun e τ' q D w d c=>?_)
 ·obtain⟨k,t,o,N,f,h,j⟩:=hi
  exact⟨k,t,o,N,f,h,hw.trans j⟩
 ·simp only[KB]at d
  obtain⟨S,E,R,f,h,j⟩:=Cn (n:=n) co.ok q d c
  obtain⟨k,t,o,x,z,A,B⟩:=H5 (n:=n) co.ok f u h
  rw[tk m p hl]
  exact BR.weak (z k o x A) (j.trans B)
 ·cases e with
  |normal=>exact absurd rfl w
  |ret=>exact .of u c (H _ ⟨.inr rfl,q,by rw[←co.O];exact d⟩)
  |exit i=>
   simp only[KB]at d
   obtain⟨S,E,R,f,h,j⟩:=Cn (n:=n) co.ok q d c
   obtain⟨k,t,o,x,z,A,B⟩:=H5 (n:=n) co.ok f u h
   exact⟨k,t,o,x,z,A,j.trans B⟩
  |_=>exact d.elim
theorem dC{f:Type}{fx:List Nat}(co:COx C os fx)(k:Bl P T)(hm:P.follows .mixedOrders=true)(m:Nat)(v:PT os β)(lf d:Lf)(j:∀τ,FQ T rs os Post .ret τ→Q .ret τ)(s:v.m=some y)(i:HL L y)(c:f→St)(a:f→Option β)
  (h:∀x y,a x=some y→HL L y→LW P n C (pa (up m p) b) (c x) Q)
  (o:(∀x y,a x=some y→HL L y→LW P n C (pa (up m p) b) (c x) Q)→∀r (g:Gd C r),v.n ⟨⟨C.l,r,fun e τ'=>match e with|.normal=>LW P n C (pa (up m p) b) τ' Q|e=>Q e τ',Post⟩,L,C,_,co,g,rfl⟩)
  (q:∀l r Q Post,UA P T l n os r m (pa p b) v.a τ (KB T rs os fx r Post lf d Q)=v.q ⟨l,r,Q,Post⟩:=by intro l r Q P;kernel_rfl) (hl:ZJ m (pa p b)=true:=by kernel_rfl):LW P n C (pa p b) τ Q:=
 Aj co k hm m v lf d j s i (o h) q hl
theorem bk(i:Nat)(h:LW P n C (pa (0::p) b) τ (fun e τ'=>match e with|.exit j=>(match Nat.beq j i with|true=>Q .normal τ'|false=>Q (.exit j) τ')|e=>Q e τ'))(hs:ZSZ i (pa p b)=true:=by kernel_rfl):LW P n C (pa p b) τ Q:=by
 unfold pa at h
 generalize pa p b=c at*
 cases c with
 |block j x=>exact Zsx i x (by rw[show j=i from Yd hs]) h
 |_=>cases hs
theorem cd(x:Bool){f m2:Option β}(hm:(if x=true then f else m2)=some y)(a:f=some y→LW P n C (pa (0::p) b) τ Q)(d:m2=some y→LW P n C (pa (1::p) b) τ Q)(hs:ZTd (pa p b)=true:=by kernel_rfl)(he:ev τ.s (ZN5 (pa p b))=.d (.bool x):=by kernel_rfl):LW P n C (pa p b) τ Q:=by
 unfold pa at a d
 generalize pa p b=c at*
 cases c with
 |cond o u v=>exact ZGR he (fun e=>a (by rw[Ym e]at hm;exact hm)) (fun e=>d (by rw[Yk (by rw[e];decide)]at hm;exact hm))
 |_=>cases hs
theorem lo(h:LL P n C (pa (0::p) b) τ Q)(hs:ZSw (pa p b)=true:=by kernel_rfl):LW P n C (pa p b) τ Q:=by
 unfold pa at h
 generalize pa p b=c at*
 cases c with
 |loop x=>exact ZHx h
 |_=>cases hs
theorem B4(v:PT os β){fx:List Nat}(co:COx C os fx)(e:v.m=some y)(a:HL L y)(b:∀r (g:Gd C r),v.n ⟨⟨C.l,r,fun _ _=>False,Post⟩,L,C,_,co,g,rfl⟩)(r:Ren)(d:Gd C r)
  (c:∀l r Q Post,Pe T rs os τ v.a Post=v.q ⟨l,r,Q,Post⟩:=by intro l r Q P;kernel_rfl):FQ T rs os Post .normal τ:=
 ⟨.inl rfl,v.a,by rw[c C.l r (fun _ _=>False) Post];exact v.ok _ (b r d) y e a⟩
end
section
variable {σ ξ ρ:Type}
def Am(B:σ→Option (Lv σ ξ ρ)):Nat→σ→Option (ξ ⊕ ρ)
 |0,_=>none
 |n+1,v=>match B v with
  |some (.nx a)=>Am B n a
  |some (.ex b)=>some (.inl b)
  |some (.rt y)=>some (.inr y)
  |none=>none
def Al:Nat:=4611686018427387904
def q8(S:σ→St)(X:ξ→Nat×St)(er:ρ→AV)(bs:ρ→List Blk)(Q:Exit→St→Prop)(Post:AV→List Blk→Prop):Lv σ ξ ρ→Prop
 |.nx v=>Q .normal (S v)
 |.ex b=>Q (.exit (X b).1) (X b).2
 |.rt y=>Post (er y) (bs y)
variable {P:Program} {T:Nat→Option TI} {n:Nat} {C:Cx} {τ:St} {Q:Exit→St→Prop} {rs:List ResultVar} {os:Nat} {c:Code} {Post:AV→List Blk→Prop}
variable {S:σ→St} {X:ξ→Nat×St} {er:ρ→AV} {bs:ρ→List Blk} {B:σ→Option (Lv σ ξ ρ)}
def KL(P:Program)(T:Nat→Option TI)(n:Nat)(C:Cx)(c:Code)(rs:List ResultVar)(os:Nat)(S:σ→St)(X:ξ→Nat×St)(er:ρ→AV)(bs:ρ→List Blk)(B:σ→Option (Lv σ ξ ρ)):Prop:=
 ∀v o,B v=some o→∀(Q:Exit→St→Prop) (Post:AV→List Blk→Prop),(∀τ,FQ T rs os Post .ret τ→Q .ret τ)→HL (q8 S X er bs Q Post) o→LW P n C c (S v) Q
theorem zP(g:KL P T n C c rs os S X er bs B)(f:∀τ,FQ T rs os Post .ret τ→Q .ret τ):∀(k:Nat) (v:σ) (o:ξ ⊕ ρ),Am B k v=some o→
  (∀b,o=.inl b→Q (.exit (X b).1) (X b).2)→(∀y,o=.inr y→Post (er y) (bs y))→LL P n C c (S v) Q
 |0,v,o,h,_,_=>by cases h
 |k+1,v,o,h,d,e=>by
  rw[Am]at h
  refine ZAT ?_
  cases a:B v with
  |none=>rw[a]at h;cases h
  |some w=>
   rw[a]at h
   refine g v w a _ Post (fun τ i=>f τ i) ?_
   cases w with
   |nx j=>exact zP g f k j o h d e
   |ex b=>cases h;exact d b rfl
   |rt y=>cases h;exact e y rfl
theorem lpB{β:Type}{k:ξ ⊕ ρ→Option β}{N:Nat}{v:σ}{y:β}(i:KL P T n C c rs os S X er bs B)(h:∀τ,FQ T rs os Post .ret τ→Q .ret τ)(hm:(Am B N v).bind k=some y)
  (f:∀b,k (.inl b)=some y→Q (.exit (X b).1) (X b).2) (g:∀z,k (.inr z)=some y→Post (er z) (bs z)):LL P n C c (S v) Q:=by
 obtain⟨o,d,a⟩:=bind_some hm
 exact zP i h N v o d (fun b e=>f b (e▸a)) (fun z e=>g z (e▸a))
theorem AH{g:ξ→Option ρ}{N:Nat}{v:σ}{y:ρ}(f:KL P T n C c rs os S X er bs B)(e:∀τ,FQ T rs os Post .ret τ→Q .ret τ)(hm:(Am B N v).bind (Sum.elim g some)=some y)(d:HL (fun y=>Post (er y) (bs y)) y)
  (a:∀b,g b=some y→Q (.exit (X b).1) (X b).2) (hs:S v=τ:=by kernel_rfl):LL P n C c τ Q:=
 hs▸lpB f e hm a fun z h=>by cases h;exact d
theorem Eu{d a:Type}{f:d→St}{h:a→Nat×St}{e:Exit→St→Prop}{g:ξ→Option (Lv d a ρ)}{N:Nat}{v:σ}{y:Lv d a ρ}(l:KL P T n C c rs os S X er bs B)(k:∀τ,FQ T rs os Post .ret τ→Q .ret τ)(hm:(Am B N v).bind (Sum.elim g fun z=>some (.rt z))=some y)(j:HL (q8 f h er bs e Post) y)
  (i:∀b,g b=some y→Q (.exit (X b).1) (X b).2) (hs:S v=τ:=by kernel_rfl):LL P n C c τ Q:=
 hs▸lpB l k hm i fun z m=>by cases m;exact j
end
theorem AF{P:Program}{T:Nat→Option TI}{n:Nat}{f:FuncId}{fn:Func}{xs:List AV}{γ:Type}{M:Option γ}{e:γ→AV}(d:P.funcs[f]?=some fn)(g:fn.ntmps=n)(b:Bl P T)(rs:List ResultVar)
  (h:∀C:Cx,CO C 0→∀y,M=some y→∀Post:AV→List Blk→Prop,HL (fun y=>Post (e y) []) y→LW P n C (pa [] (Az fn)) (Ad (Ep 0 xs) []) (FQ T rs 0 Post))
  (hx:∀r,As r xs=xs:=by intro r;kernel_rfl) (he:∀r y,ren r (e y)=e y:=by intro r y;kernel_rfl)
  (c:fn.body=some (Az fn):=by kernel_rfl) (a:(fn.name== "runtime.NumGoroutine")=false:=by kernel_rfl) (i:fn.results.toList=rs:=by kernel_rfl) (hl:Nat.ble xs.length n=true:=by kernel_rfl):KC P f xs M e:=
 ⟨fun l H y hm=>Zra rs (Az fn) (fun _=>.top) xs d c a g i (Yh hl) b (hx _) fun B=>h _ ⟨ZmE l B _ H,rfl,rfl,fun _ h=>absurd h (Y5 _)⟩ y hm (fun z _=>z=e y∧H=H) ⟨rfl,rfl⟩,hx,he⟩
end Go.Eng
namespace Go.Eng
set_option linter.all false
open Go Go.RowKit
def DY:Nat→List Blk→List (Af×Blk)
 |_,[]=>[]
 |i,b::bs=>((0,i),b)::DY (i+1) bs
abbrev Cl:=(Af→Prop)→Nat→Hp→(Nat→AV)→Prop
structure KO (P:Program) (f:FuncId) (os:Nat) (ys:List AV) (bi:List Blk) (Θ:Cl) {γ:Type} (M:Option γ) (e:γ→AV) (bs:γ→List Blk):Prop where
 k:∀l H (ks:List Af) (gs:List Nat) (θ:Nat→AV),ks.length=os→Jp l ks→ks.Nodup→Kd H (Cv l ks gs θ H) (DY 0 bi) 0 ks→Θ (fun k=>k∈ks) l H θ→∀y,M=some y→
  Zc1 P f l (As (Cv l ks gs θ H) ys) H (fun z H'=>z=ren (Cv l ks gs θ H) (e y)∧H'=DL H ks (C1 (Cv l ks gs θ H) 0 (bs y)))
mutual
def LS(os:Nat):AV→Bool
 |.ref k _ _ _=>Nat.beq k.1 0&&Nat.ble (k.2+1) os
 |.ptr k _ _=>Nat.beq k.1 0&&Nat.ble (k.2+1) os
 |.mp k _=>Nat.beq k.1 0&&Nat.ble (k.2+1) os
 |.fn f xs ys=>(match f with|.yield _=>false|_=>true)&&Je os xs&&Je os ys
 |.agg xs=>Je os xs
 |.tup xs=>Je os xs
 |.top=>true
 |.d _=>true
 |.e0=>true
 |.p _=>true
 |.iptr _ _=>true
 |.ifc _ _ _=>true
def Je(os:Nat):List AV→Bool
 |[]=>true
 |x::xs=>LS os x&&Je os xs
end
def NT(os:Nat)(r a:Ren):Prop:=∀q,q<os→r.κ (0,q)=a.κ (0,q)∧r.γ (0,q)=a.γ (0,q)
theorem lU{os:Nat}{r c:Ren}(hs:NT os r c){k:Af}(h:(Nat.beq k.1 0&&Nat.ble (k.2+1) os)=true):r.κ k=c.κ k∧r.γ k=c.γ k:=by
 simp only[Yb]at h
 obtain⟨a,b⟩:=k
 have d:=Yd h.1
 have e:=Yh h.2
 simp only at d e
 subst d
 exact hs b e
mutual
theorem lM{os:Nat}{r c:Ren}(hs:NT os r c):∀x:AV,LS os x=true→ren r x=ren c x
 |.ref k g off n,h=>by obtain⟨a,b⟩:=lU hs h;simp only[ren,a,b]
 |.ptr k g off,h=>by obtain⟨a,b⟩:=lU hs h;simp only[ren,a,b]
 |.mp k g,h=>by obtain⟨a,b⟩:=lU hs h;simp only[ren,a,b]
 |.fn f xs ys,h=>by
  simp only[LS,Yb]at h
  have a:=M0 hs xs h.1.2
  have b:=M0 hs ys h.2
  cases f<;>first|(simp only[ren,a,b];done)|(simp at h)
 |.agg xs,h=>by simp only[LS]at h;simp only[ren,M0 hs xs h]
 |.tup xs,h=>by simp only[LS]at h;simp only[ren,M0 hs xs h]
 |.top,_=>by simp[ren]
 |.d _,_=>by simp[ren]
 |.e0,_=>by simp[ren]
 |.p _,_=>by simp[ren]
 |.iptr _ _,_=>by simp[ren]
 |.ifc _ _ _,_=>by simp[ren]
theorem M0{os:Nat}{r a:Ren}(hs:NT os r a):∀xs:List AV,Je os xs=true→As r xs=As a xs
 |[],_=>by simp[As]
 |x::xs,h=>by
  simp only[Je,Yb]at h
  simp only[As,lM hs x h.1,M0 hs xs h.2]
end
def GT(os:Nat):List Blk→Prop
 |[]=>True
 |b::bs=>(Il b.cells∨Je os b.cells=true)∧b.live=true∧GT os bs
theorem GT.ren{os:Nat}{r a:Ren}(hs:NT os r a):∀(bs:List Blk) (i:Nat),i+bs.length≤os→GT os bs→C1 r i bs=C1 a i bs
 |[],_,_,_=>rfl
 |b::bs,i,hl,h=>by
  simp only[FC]at hl
  have d:As r b.cells=As a b.cells:=by
   rcases h.1 with c|e
   ·rw[JC c,JC c]
   ·exact M0 hs _ e
  simp only[C1,GT.ren hs bs (i+1) (by omega) h.2.2,AW,d,(hs i (by omega)).2]
theorem GT.live{os:Nat}:∀{bs:List Blk},GT os bs→∀b∈bs,b.live=true
 |c::bs,h,b,a=>by
  rcases Yx.1 a with rfl|a
  ·exact h.2.1
  ·exact GT.live h.2.2 b a
theorem NX:Il []:=fun x hx=>by cases hx
theorem Bv{P:Program}{T:Nat→Option TI}{n:Nat}{f:FuncId}{fn:Func}{ys:List AV}{bi:List Blk}{Θ:Cl}{γ:Type}{M:Option γ}{e:γ→AV}{bs:γ→List Blk}(G:P.funcs[f]?=some fn)(I:fn.ntmps=n)(E:Bl P T)(u:List ResultVar)(os:Nat)
  (h:∀C:Cx,CO C os→Θ C.no C.l C.H0 C.θ→∀y,M=some y→∀a:AV→List Blk→Prop,HL (fun y=>a (e y) (bs y)) y→LW P n C (pa [] (Az fn)) (Ad (Ep 0 ys) (DY 0 bi)) (FQ T u os a))
  (he:∀y,LS os (e y)=true:=by intro y;kernel_rfl) (hB:∀y,GT os (bs y):=by intro y;repeat(first|exact trivial|refine⟨.inl (Aw _ _),rfl,?_⟩|refine⟨.inl NX,rfl,?_⟩|refine⟨.inr (by kernel_rfl),rfl,?_⟩)) (hl:∀y,(bs y).length=os:=by intro y;rfl) (o:I6 os (DY 0 bi)=true:=by kernel_rfl)
  (F:fn.body=some (Az fn):=by kernel_rfl) (c:(fn.name== "runtime.NumGoroutine")=false:=by kernel_rfl) (d:fn.results.toList=u:=by kernel_rfl) (hx:Nat.ble ys.length n=true:=by kernel_rfl):KO P f os ys bi Θ M e bs:=
 ⟨fun l H ks g θ p i t B K y hy=>by
  have hN:∀r,I0 l ks g r→NT os r (Cv l ks g θ H):=fun r d q J=>by
   obtain⟨v,w⟩:=d
   exact⟨congrFun v _,w q (by omega)⟩
  refine Zn2 u (Az fn) ks g os θ ys (DY 0 bi) (e y) (bs y) (Y':=ren (Cv l ks g θ H) (e y)) (bs':=C1 (Cv l ks g θ H) 0 (bs y)) G F c I d (by rw[CL];exact Yh hx) E p i t o B rfl (hl y) (hB y).live
   (fun r d=>lM (hN r d) _ (he y)) (fun r d=>GT.ren (hN r d) _ _ (by rw[hl];omega) (hB y)) (fun C x D A s m L N j=>?_) ⟨rfl,rfl⟩
  refine h C ⟨x,D,A,fun q J=>?_⟩ (by rw[j,s,m,L];exact K) y hy (fun z b=>z=e y∧b=bs y) ⟨rfl,rfl⟩
  rw[j,N]
  show(match Bt ks q with|some k=>k|none=>(0,0))∈ks
  rw[Cs,Ye (by omega)]
  exact Gn _⟩
def Fm(r:Ren):List (Af×Blk)→List Nat
 |[]=>[]
 |(k,b)::a=>(r.γ k+b.g)::Fm r a
def BE(r a:Ren):Nat→List Blk→List (Af×Blk)→Prop
 |i,b::bs,(k,c)::cs=>(b.live=true→c.live=true∧AW r (0,i) b=AW a k c)∧r.γ (0,i)+b.g=a.γ k+c.g∧BE r a (i+1) bs cs
 |_,[],[]=>True
 |_,_,_=>False
def Ib:List Af→Bool
 |[]=>true
 |k::ks=>!(ks.any (BK k))&&Ib ks
theorem PN{κ:Af→Af}{os:Nat}(a:∀q k:Af,BQ os q=true→BQ os k=true→q≠k→κ q≠κ k):∀(ks:List Af),Ib ks=true→ks.all (BQ os)=true→(ks.map κ).Nodup
 |[],_,_=>List.nodup_nil
 |k::ks,h,b=>by
  simp only[Ib,Yb,YJ]at h
  simp only[I1,Yb]at b
  rw[YY,List.nodup_cons]
  refine⟨fun hm=>?_,PN a ks h.2 b.2⟩
  obtain⟨q,d,e⟩:=YT.1 hm
  have c:q≠k:=fun e'=>Wr h.1 (e'▸d)
  grind
section
variable {P:Program} {f:FuncId} {os os':Nat} {ys:List AV} {bi:List Blk} {Θ:Cl} {γ:Type} {M:Option γ} {e:γ→AV} {bs:γ→List Blk} {C:Cx} {r:Ren} {xs:List AV} {x:AV} {y:γ}
theorem WL{fx:List Nat}(co:COx C os' fx)(g:Gd C r):∀q k:Af,BQ os' q=true→BQ os' k=true→q≠k→r.κ q≠r.κ k:=by
 intro q k m j l he
 rw[g.κ]at he
 rcases GD m with e|⟨e,h⟩<;>rcases GD j with f|⟨f,i⟩
 ·obtain⟨a,b⟩:=q
  obtain⟨c,d⟩:=k
  simp only at e f
  subst e;subst f
  rw[co.ok.own,co.ok.own]at he
  grind
 ·obtain⟨a,b⟩:=q
  obtain⟨c,d⟩:=k
  simp only at e f i
  subst e;subst f
  rw[co.ok.own]at he
  have:=co.ok.out d (by rw[co.O];exact i)
  grind
 ·obtain⟨a,b⟩:=q
  obtain⟨c,d⟩:=k
  simp only at e h f
  subst e;subst f
  rw[co.ok.own]at he
  have:=co.ok.out b (by rw[co.O];exact h)
  grind
 ·obtain⟨a,b⟩:=q
  obtain⟨c,d⟩:=k
  simp only at e h f i
  subst e;subst f
  have:=co.ok.inj b d (by rw[co.O];exact h) (by rw[co.O];exact i) he
  grind
theorem Nh{fx:List Nat}(co:COx C os' fx)(g:Gd C r):∀(ks:List Af),ks.all (BQ os')=true→Jp (C.l+1) (ks.map r.κ)
 |[],_=>trivial
 |k::ks,h=>by
  simp only[I1,Yb]at h
  refine⟨?_,Nh co g ks h.2⟩
  rw[g.κ]
  obtain⟨a,b⟩:=k
  rcases GD h.1 with c|⟨c,d⟩
  ·simp only at c;subst c;rw[co.ok.own];exact Yf _
  ·simp only at c d;subst c;exact S3 (co.ok.out b (by rw[co.O];exact d))
theorem Qn:∀(bi:List Blk) (i j:Nat),AL (DY i bi) (0,i+j)=(bi[j]?).getD Fj
 |[],i,j=>by simp[DY,AL]
 |b::bi,i,0=>by simp[DY,AL,BK]
 |b::bi,i,j+1=>by
  have a:=Qn bi (i+1) j
  simp only[DY,AL]
  have:BK (0,i) (0,i+(j+1))=false:=by
   simp only[BK,Kh]
   right
   cases h:Nat.beq i (i+(j+1))with
   |false=>rfl
   |true=>have:=Yd h;omega
  grind
theorem QP{g:Ren}{d:Hp}:∀(bi:List Blk) (a:List (Af×Blk)) (i:Nat) (B:List Blk),(∀j,AL (DY 0 B) (0,i+j)=(bi[j]?).getD Fj)→BE g r i bi a→
  (∀p∈a,(d (r.κ p.1)).g=r.γ p.1+p.2.g∧(p.2.live=true→d (r.κ p.1)=AW r p.1 p.2))→Kd d g (DY 0 B) i ((a.map (·.1)).map r.κ)
 |[],[],i,B,_,_,_=>trivial
 |b::bi,(k,c)::a,i,B,hB,h,f=>by
  have e:=hB 0
  simp only[Gp,YU,G6]at e
  obtain⟨n,o,l⟩:=h
  refine⟨?_,QP bi a (i+1) B (fun j=>?_) l fun p m=>f p (YC _ m)⟩
  ·rw[e]
   have q:=f _ (YB ..)
   grind
  ·have:=hB (j+1)
   grind
 |[],_::_,_,_,_,h,_=>h.elim
 |_::_,[],_,_,_,h,_=>h.elim
theorem Zse{H:Hp}{k:Af}:updH H k (H k)=H:=by
 funext q
 by_cases h:q=k
 ·subst h;exact A6 ..
 ·exact A0 _ _ h
theorem kL{g:Ren}{d:Hp}:∀(bi:List Blk) (a:List (Af×Blk)) (i:Nat),BE g r i bi a→(∀b∈bi,b.live=true)→(∀p∈a,p.2.live=true→d (r.κ p.1)=AW r p.1 p.2)→DL d ((a.map (·.1)).map r.κ) (C1 g i bi)=d
 |[],[],_,_,_,_=>rfl
 |b::bi,(k,c)::a,i,h,hl,f=>by
  obtain⟨l,q,m⟩:=h
  have e:=l (hl b (YB ..))
  have j:=f _ (YB ..) e.1
  simp only[YY,DL,C1]
  rw[e.2,←j,Zse]
  exact kL bi a (i+1) m (fun b n=>hl b (YC _ n)) fun p o=>f p (YC _ o)
 |[],_::_,_,h,_,_=>h.elim
 |_::_,[],_,h,_,_=>h.elim
theorem kU{j:Ren}:∀(d:List Blk) (f a:List (Af×Blk)) (i:Nat) (g:Hp),BE j r i d a→(∀b∈d,b.live=true)→f.map (·.1)=a.map (·.1)→DL g ((f.map (·.1)).map r.κ) (C1 j i d)=Do r a g
 |[],[],[],_,_,_,_,_=>rfl
 |[],_::_,[],_,_,_,_,h=>by cases h
 |b::d,[],_::_,_,_,_,_,h=>by cases h
 |b::d,(k,c)::f,(q,o)::a,i,g,h,hl,he=>by
  obtain⟨l,p,m⟩:=h
  simp only[YY,List.cons.injEq]at he
  obtain⟨rfl,he⟩:=he
  have e:=l (hl b (YB ..))
  simp only[YY,DL,C1,Do]
  rw[e.2]
  exact kU d f a (i+1) _ m (fun b n=>hl b (YC _ n)) he
 |_::_,_,[],_,_,h,_,_=>h.elim
 |[],_,_::_,_,_,h,_,_=>h.elim
def rC(C:Cx)(r:Ren)(a:List (Af×Blk))(θ:Nat→AV)(H:Hp):Ren:=Cv (C.l+1) ((a.map (·.1)).map r.κ) (Fm r a) θ H
def Th(Θ:Cl)(C:Cx)(r:Ren)(b c:List (Af×Blk))(θ:Nat→AV):Prop:=
 ∀a,(∀p∈c,(a (r.κ p.1)).g=r.γ p.1+p.2.g∧(p.2.live=true→a (r.κ p.1)=AW r p.1 p.2))→(∀k:Af,k.1≤C.l→¬r.no k→a k=r.H0 k)→Θ (fun k=>k∈(b.map (·.1)).map r.κ) (C.l+1) a θ
theorem He(K:KO P f os ys bi Θ M e bs)(hy:M=some y){fx:List Nat}(co:COx C os' fx)(g:Gd C r)(a k:List (Af×Blk))(θ:Nat→AV)(F:Th Θ C r a (a++k) θ)(l:∀H,BE (rC C r a θ H) r 0 bi a)(t:bs y=bi:=by rfl)(n:bi.all Blk.live=true:=by kernel_rfl)(i:(a++k).all (fun p=>p.2.live)=true:=by kernel_rfl)(hx:∀H,As (rC C r a θ H) ys=As r xs:=by intro H;kernel_rfl)(u:∀H,ren (rC C r a θ H) (e y)=ren r x:=by intro H;kernel_rfl)
  (m:((a.map (·.1)).all (BQ os')&&Ib (a.map (·.1))&&Nat.beq a.length os)=true:=by kernel_rfl):If P C.l r f xs (a++k) x:=by
 intro d v D
 have s:∀b∈bi,b.live=true:=fun b E=>Ys.1 n b E
 have o:∀p∈a++k,p.2.live=true:=fun p c=>Ys.1 i p c
 have h:∀p∈a,p∈a++k:=fun p c=>HM _ c
 simp only[Yb]at m
 have q:∀p∈a++k,(d (r.κ p.1)).g=r.γ p.1+p.2.g∧(p.2.live=true→d (r.κ p.1)=AW r p.1 p.2):=fun p c=>⟨by rw[v p c (o p c)];rfl,v p c⟩
 have:=K.k (C.l+1) d ((a.map (fun p:Af×Blk=>p.1)).map r.κ) (Fm r a) θ (by rw[YH,YH];exact Yd m.2) (Nh co g _ m.1.1) (PN (WL co g) _ m.1.2 m.1.1)
  (QP bi a 0 bi (fun j=>by have:=Qn bi 0 j;rwa [YO]at this⊢) (l d) fun p c=>q p (h p c)) (F d q D) y hy
 rw[←hx d]
 refine this.mono fun z w ⟨A,B⟩=>⟨A.trans (u d),B.trans ?_⟩
 rw[t]
 exact kL bi a 0 (l d) s fun p c hl=>(q p (h p c)).2 hl
theorem A8(K:KO P f os ys bi Θ M e bs)(hy:M=some y){fx:List Nat}(co:COx C os' fx)(g:Gd C r)(a m c:List (Af×Blk))(θ:Nat→AV)(D:Th Θ C r a (a++m) θ)
  (n:∀H,BE (rC C r a θ H) r 0 bi a) (h:∀H,BE (rC C r a θ H) r 0 (bs y) c) (k:(bs y).all Blk.live=true:=by kernel_rfl) (hx:∀H,As (rC C r a θ H) ys=As r xs:=by intro H;kernel_rfl) (s:∀H,ren (rC C r a θ H) (e y)=ren r x:=by intro H;kernel_rfl)
  (i:((a.map (·.1)).all (BQ os')&&Ib (a.map (·.1))&&Nat.beq a.length os)=true:=by kernel_rfl) (he:a.map (·.1)=c.map (·.1):=by rfl):Iu P C.l r f xs (a++m) x c []:=by
 have o:∀b∈bs y,b.live=true:=fun b B=>Ys.1 k b B
 have l:∀p∈a,p∈a++m:=fun p q=>HM _ q
 refine Zyp rfl rfl fun d t A=>?_
 simp only[Yb]at i
 have:=K.k (C.l+1) d ((a.map (fun p:Af×Blk=>p.1)).map r.κ) (Fm r a) θ (by rw[YH,YH];exact Yd i.2) (Nh co g _ i.1.1) (PN (WL co g) _ i.1.2 i.1.1)
  (QP bi a 0 bi (fun j=>by have:=Qn bi 0 j;rwa [YO]at this⊢) (n d) fun p q=>t p (l p q)) (D d t A) y hy
 rw[←hx d]
 exact this.mono fun z u ⟨v,w⟩=>⟨v.trans (s d),w.trans (kU (bs y) a c 0 d (h d) o he)⟩
end
structure CloM (P:Program) (C:Cx) (i:Nat) (xs:List AV) {γ:Type} (M:Option γ) (e:γ→AV):Prop where
 k:∀y,M=some y→CP P C.l C.no C.H0 (C.θ i) xs (e y)
 x:∀r,As r xs=xs
 e:∀r y,ren r (e y)=e y
section
variable {os:Nat} {β γ:Type} [Inhabited γ]
theorem CloM.callF{P:Program}{i:Nat}{xs:List AV}{M:Option γ}{e:γ→AV}(E:Ev os β)(h:CloM P E.C i xs M e){y:γ}(hy:M=some y):NG P E.E.l E.E.r i xs [] (e y):=
 ZBD (congrFun E.g.θ i) (by rw[E.hl,E.g.no,E.g.H];exact h.k y hy) (h.x _) (h.e _ _)
@[reducible] def cf(P:Program)(i:Nat)(xs:List AV)(M:Option γ)(e:γ→AV)(k:γ→PT os β):PT os β:=
 ⟨.call (e (M.getD default)) [] (k (M.getD default)).a,fun E=>NG P E.l E.r i xs [] (e (M.getD default))∧(k (M.getD default)).q E,M.bind fun y=>(k y).m,fun E=>CloM P E.C i xs M e∧∀y,(k y).n E,fun E b y hm f=>by
  obtain⟨x,a,c⟩:=bind_some hm
  have d:M.getD default=x:=by rw[a];rfl
  rw[d]
  exact⟨b.1.callF E a,(k x).ok E (b.2 x) y c f⟩⟩
@[reducible] def HD(b:Bool)(P:Program)(i:Nat)(xs:List AV)(M:Option γ)(e:γ→AV)(k:γ→PT os β):PT os β:=
 ⟨.call (e (M.getD default)) [] (k (M.getD default)).a,fun E=>(b=true→NG P E.l E.r i xs [] (e (M.getD default)))∧(k (M.getD default)).q E,if(b=true→M.isSome=true)then(k (M.getD default)).m else none,fun E=>CloM P E.C i xs M e∧∀y,(k y).n E,fun E c y hm g=>by
  obtain⟨d,hm⟩:=BO hm
  refine⟨fun h=>?_,(k _).ok E (c.2 _) y hm g⟩
  obtain⟨x,a⟩:=YP.1 (d h)
  have f:M.getD default=x:=by rw[a];rfl
  rw[f];exact c.1.callF E a⟩
@[reducible] def cs(P:Program)(f:FuncId)(xs:List AV)(ks:List Af)(b:List (Af×Blk))(M:Option γ)(e:γ→AV)(k:γ→PT os β):PT os β:=
 ⟨.call (e (M.getD default)) ks (k (M.getD default)).a,fun E=>If P E.l E.r f xs b (e (M.getD default))∧(k (M.getD default)).q E,M.bind fun y=>(k y).m,fun E=>(∀y,M=some y→If P E.C.l E.E.r f xs b (e y))∧∀y,(k y).n E,fun E c y hm h=>by
  obtain⟨x,a,d⟩:=bind_some hm
  have g:M.getD default=x:=by rw[a];rfl
  rw[g]
  exact⟨by rw[E.hl];exact c.1 x a,(k x).ok E (c.2 x) y d h⟩⟩
@[reducible] def J3(b:Bool)(P:Program)(f:FuncId)(xs:List AV)(ks:List Af)(a:List (Af×Blk))(M:Option γ)(e:γ→AV)(k:γ→PT os β):PT os β:=
 ⟨.call (e (M.getD default)) ks (k (M.getD default)).a,fun E=>(b=true→If P E.l E.r f xs a (e (M.getD default)))∧(k (M.getD default)).q E,if(b=true→M.isSome=true)then(k (M.getD default)).m else none,fun E=>(∀y,M=some y→If P E.C.l E.E.r f xs a (e y))∧∀y,(k y).n E,fun E d y hm i=>by
  obtain⟨g,hm⟩:=BO hm
  refine⟨fun a=>?_,(k _).ok E (d.2 _) y hm i⟩
  obtain⟨x,c⟩:=YP.1 (g a)
  have h:M.getD default=x:=by rw[c];rfl
  rw[h,E.hl];exact d.1 x c⟩
@[reducible] def mv{α:Type}[Rw α](d q:Nat)(xs:List α)(k:PT os β)(a:Nat.ble (q+1) os=true:=by kernel_rfl):PT os β:=
 ⟨.mv d q k.a,fun E=>FV (Ab Rw.e xs)∧(q<os∧E.r.no (E.r.κ (0,q)))∧k.q E,k.m,k.n,fun E c y hm b=>
  ⟨zN _ _,⟨Yh a,by rw[E.g.no,E.g.κ];exact E.co.W q (Yh a)⟩,k.ok E c y hm b⟩⟩
@[reducible] def mvc{α:Type}[Rw α](d q e i:Nat)(xs:List α)(k:PT os β)(a:Nat.ble (q+1) os=true:=by kernel_rfl):PT os β:=
 ⟨.mvc d q e i k.a,fun E=>FV (Ab Rw.e xs)∧(q<os∧E.r.no (E.r.κ (0,q)))∧k.q E,k.m,k.n,fun E c y hm b=>
  ⟨zN _ _,⟨Yh a,by rw[E.g.no,E.g.κ];exact E.co.W q (Yh a)⟩,k.ok E c y hm b⟩⟩
end
section
variable {P:Program} {os os':Nat} {ys:List AV} {bi:List Blk} {Θ:Cl} {γ:Type} {M:Option γ} {e:γ→AV} {bs:γ→List Blk} {C:Cx} {r:Ren} {y:γ}
theorem Lc{f:FuncId}(K:KO P f os ys bi Θ M e bs)(hy:M=some y){fx:List Nat}(co:COx C os' fx)(g:Gd C r)(c i:List (Af×Blk)){w:List (Af×Blk)}{v:Hp}(L:∀p∈w,(v (r.κ p.1)).g=r.γ p.1+p.2.g∧(p.2.live=true→v (r.κ p.1)=AW r p.1 p.2))(u:∀p∈c,p∈w)
  {G d:List AV} (θ:Nat→AV) (O:∀l' a,Θ (fun k=>k∈(c.map (·.1)).map r.κ) l' a θ) (o:∀l H,BE (Cv l ((c.map (·.1)).map r.κ) (Fm r c) θ H) r 0 bi c) (B:bs y=bi:=by rfl) (t:bi.all Blk.live=true:=by kernel_rfl)
  (hx:∀l H,As (Cv l ((c.map (·.1)).map r.κ) (Fm r c) θ H) ys=G++d:=by intro l H;kernel_rfl) (D:∀l H,ren (Cv l ((c.map (·.1)).map r.κ) (Fm r c) θ H) (e y)=e y:=by intro l H;kernel_rfl)
  (F:(((c++i).map (·.1)).all (BQ os')&&Ib ((c++i).map (·.1))&&Nat.beq c.length os)=true:=by kernel_rfl):CP P (C.l+1) (fun k=>k∈(i.map (·.1)).map r.κ) v (.fn (.func f) [] d) G (e y):=by
 have A:∀b∈bi,b.live=true:=fun b w=>Ys.1 t b w
 refine⟨f,[],d,rfl,fun l' a hl N=>?_⟩
 simp only[Yb,DT,List.all_append]at F
 obtain⟨⟨⟨E,R⟩,S⟩,T⟩:=F
 have m:=PN (WL co g) _ S (by rw[List.all_append,E,R];rfl)
 rw[DT,List.nodup_append]at m
 have x:∀p∈c,a (r.κ p.1)=v (r.κ p.1):=fun p n=>by
  have hm:r.κ p.1∈(c.map (·.1)).map r.κ:=aE (aE n)
  exact N _ (Wg (Nh co g _ E) _ hm) fun h=>m.2.2 _ hm _ h rfl
 have q:∀p∈c,(a (r.κ p.1)).g=r.γ p.1+p.2.g∧(p.2.live=true→a (r.κ p.1)=AW r p.1 p.2):=fun p n=>by rw[x p n];exact L p (u p n)
 have s:Jp l' ((c.map (·.1)).map r.κ):=by
  have:=Nh co g (c.map (·.1)) E
  generalize (c.map (·.1)).map r.κ=ks at this
  induction ks with
  |nil=>trivial
  |cons k ks Q=>exact⟨Ed this.1 hl,Q this.2⟩
 have:=K.k l' a ((c.map (fun p:Af×Blk=>p.1)).map r.κ) (Fm r c) θ (by rw[YH,YH];exact Yd T) s m.1
  (QP bi c 0 bi (fun j=>by have:=Qn bi 0 j;rwa [YO]at this⊢) (o l' a) q) (O l' a) y hy
 rw[Fy,←hx l' a]
 refine this.mono fun z U ⟨I,J⟩=>⟨I.trans (D l' a),J.trans ?_⟩
 rw[B]
 exact kL bi c 0 (o l' a) A fun p n hl=>(q p n).2 hl
theorem pT{f:FuncId}{xs:List AV}(K:KC P f xs M e)(hy:M=some y){l:Nat}{no:Af→Prop}{H:Hp}:CP P l no H (.fn (.func f) [] []) xs (e y):=ZyP fun l' a=>K.k l' a y hy
end
theorem BJ{C:Cx}{r:Ren}{os':Nat}{P:Program}{i:Nat}{xs:List AV}{y:AV}{fx:List Nat}(co:COx C os' fx)(g:Gd C r)(m:List (Af×Blk)){l:Hp}(p:∀k:Af,k.1≤C.l→¬r.no k→l k=r.H0 k)(h:CP P C.l C.no C.H0 (C.θ i) xs y)
  (o:((m.map (·.1)).all (BQ os'))=true:=by kernel_rfl):CP P (C.l+1) (fun k=>k∈(m.map (·.1)).map r.κ) l (r.θ i) xs y:=by
 rw[g.θ]
 refine ZEd h (Nat.le_succ _) (fun q f d hm=>?_) fun q f d=>?_
 ·obtain⟨k,j,e⟩:=YT.1 hm
  rw[g.κ]at e
  obtain⟨a,b⟩:=k
  rcases GD (Ys.1 o _ j)with c|⟨c,n⟩
  ·simp only at c;subst c;rw[co.ok.own]at e;rw[←e]at f;simp only at f;omega
  ·simp only at c n;subst c;rw[←e]at d;exact d (co.W b n)
 ·rw[←g.H];exact p q f (by rw[g.no];exact d)
theorem AE{r b:Ren}{k k':Af}{g a:Nat}{e:EK}{sz:Nat}{cs:List AV}(h:Il cs)(c:r.γ k+g=b.γ k'+a):AW r k ⟨g,true,e,sz,cs⟩=AW b k' ⟨a,true,e,sz,cs⟩:=by
 simp only[AW,JC h,c]
section
variable {P:Program} {T:Nat→Option TI} {n:Nat} {C:Cx} {τ:St} {Q:Exit→St→Prop} {os k:Nat} {c:Code} {β:Type} {L:β→Prop} {y:β}
theorem AN{fx:List Nat}(co:COx C os fx)(o:Bl P T)(m:Nat)(v:PT os β)(lf:Lf)(s:v.m=some y)(j:HL L y)(p:∀r (g:Gd C r),v.n ⟨⟨C.l,r,fun _ τ'=>LO P n C c (k+m) τ' Q,fun _ _=>False⟩,L,C,_,co,g,rfl⟩)
  (q:∀l r Q b,Bs r os v.a τ (fun τ a=>Hr P T l n r ((Ct c).toList.map (·.dst)) (JX m (JT k (Ct c).toList)) [] a (fun τ' env d=>Bs r os d (Eo env τ') (fun τ _=>FX fx lf τ (Q .normal))) τ)=v.q ⟨l,r,Q,b⟩:=by intro l r Q P;kernel_rfl):LO P n C c k τ Q:=
 ZMP co.ok o co.O co.F m v.a lf (fun r Φ=>v.q ⟨C.l,r,fun _=>Φ,fun _ _=>False⟩) (fun r Φ=>q _ r (fun _=>Φ) _) fun r e f h i=>v.ok _ (p r ⟨e,f,h,i⟩) y s j
theorem AK{fx:List Nat}(co:COx C os fx)(m:Bl P T)(v:PT os β)(lf:Lf)(q:v.m=some y)(j:HL L y)(o:∀r (g:Gd C r),v.n ⟨⟨C.l,r,Q,fun _ _=>False⟩,L,C,_,co,g,rfl⟩)
  (p:∀l r Q b,Bs r os v.a τ (fun τ a=>Hr P T l n r ((Ct c).toList.map (·.dst)) (JT k (Ct c).toList) [] a (fun τ' env d=>Bs r os d (Eo env τ') (fun τ _=>FX fx lf τ (Q .normal))) τ)=v.q ⟨l,r,Q,b⟩:=by intro l r Q P;kernel_rfl):LO P n C c k τ Q:=
 ZPn co.ok m co.O co.F v.a lf (fun r Q=>v.q ⟨C.l,r,Q,fun _ _=>False⟩) (fun r Q=>p _ r Q _) fun r e f h i=>v.ok _ (o r ⟨e,f,h,i⟩) y q j
theorem A9{γ:Type}{M:Option γ}{kk:γ→Option β}{ss:List (Nat×AV)}{hs:List (Af×Blk)}{fx:List Nat}(co:COx C os fx)(hm:M.bind kk=some y)(f:FuncId)(xs:List AV)(ks:List Af)(b:List (Af×Blk))(e:γ→AV)(Ay:γ→List (Af×Blk))(fl:List Af)
  (l:∀z,Fw C (Ay z)) (d:J4 (AL hs) fl) (a:∀z,M=some z→∀r,Gd C r→Iu P C.l r f xs b (e z) (Ay z) [])
  (h:∀z,kk z=some y→LO P n C c (k+1) (Ad (Hu (FZ c k) (e z) (Eh [] ss)) (Ay z++Db ((Ay z).map (·.1)) [] fl hs)) Q)
  (j:Hj c k=some (FZ c k,callF c k,Hl c k):=by kernel_rfl) (v:ev (AG ss) (callF c k)=.fn (.func f) [] []:=by kernel_rfl) (m:[]++(Hl c k).map (ev (AG ss))++[]=xs:=by kernel_rfl) (g:(ks.map fun k=>(k,AL hs k))=b:=by kernel_rfl)
  (i:∀z,(DK os (Ay z)&&Mt [] (Ay z)&&Nc [] fx&&Im hs&&Nq n (FZ c k)&&ks.all (BQ os))=true:=by intro z;kernel_rfl):LO P n C c k (Ad ss hs) Q:=by
 obtain⟨z,o,p⟩:=bind_some hm
 exact ZpT co.ok co.O co.F f [] [] xs j v m ks b g (e z) (Ay z) [] fl (i z) (l z) d (fun r q s t u=>a z o r ⟨q,s,t,u⟩) (h z p)
theorem c6{γ:Type}{M:Option γ}{kk:γ→Option β}{ss:List (Nat×AV)}{hs:List (Af×Blk)}{f:FuncId}{os':Nat}{ys:List AV}{bi:List Blk}{Θ:Cl}{e0:γ→AV}{bs:γ→List Blk}{fx:List Nat}(co:COx C os fx)(hm:M.bind kk=some y)(K:KO P f os' ys bi Θ M e0 bs)
  (a b:List (Af×Blk)) (e:γ→AV) (Ay:γ→List (Af×Blk)) (fl:List Af)
  (h:∀z,kk z=some y→LO P n C c (k+1) (Ad (Hu (FZ c k) (e z) (Eh [] ss)) (Ay z++Db ((Ay z).map (·.1)) [] fl hs)) Q)
  (θ:Ren→Nat→AV:=fun _=>AG []) (x:∀r,Gd C r→Th Θ C r a (a++b) (θ r):=by intro r g;exact fun _ _ _=>trivial) (xs:List AV:=[]++(Hl c k).map (ev (AG ss))++[])
  (q:∀z,Fw C (Ay z):=by intro z;repeat(first|exact trivial|refine⟨COx.W ‹_› _ (by decide),?_⟩))
  (j:J4 (AL hs) fl:=by repeat(first|exact trivial|refine⟨Aw _ _,?_⟩))
  (i:∀r H,BE (rC C r a (θ r) H) r 0 bi a:=by
   intro r H
   repeat(first|exact trivial|refine⟨fun _=>⟨rfl,AE (Aw _ _) (by kernel_rfl)⟩,by kernel_rfl,?_⟩|refine⟨fun _=>⟨rfl,AE NX (by kernel_rfl)⟩,by kernel_rfl,?_⟩|refine⟨fun _=>⟨rfl,by kernel_rfl⟩,by kernel_rfl,?_⟩|refine⟨(fun h=>nomatch h),by kernel_rfl,?_⟩))
  (d:∀z r H,BE (rC C r a (θ r) H) r 0 (bs z) (Ay z):=by
   intro z r H
   repeat(first|exact trivial|refine⟨fun _=>⟨rfl,AE (Aw _ _) (by kernel_rfl)⟩,by kernel_rfl,?_⟩|refine⟨fun _=>⟨rfl,AE NX (by kernel_rfl)⟩,by kernel_rfl,?_⟩|refine⟨fun _=>⟨rfl,by kernel_rfl⟩,by kernel_rfl,?_⟩))
  (hx:∀r H,As (rC C r a (θ r) H) ys=As r xs:=by intro r H;kernel_rfl) (s:[]++(Hl c k).map (ev (AG ss))++[]=xs:=by kernel_rfl) (t:∀z r H,ren (rC C r a (θ r) H) (e0 z)=ren r (e z):=by intro z r H;kernel_rfl)
  (p:Hj c k=some (FZ c k,callF c k,Hl c k):=by kernel_rfl) (u:ev (AG ss) (callF c k)=.fn (.func f) [] []:=by kernel_rfl)
  (l:(((a++b).map (·.1)).map fun k=>(k,AL hs k))=a++b:=by kernel_rfl) (m:∀z,(bs z).all Blk.live=true:=by intro z;kernel_rfl) (he:∀z,a.map (·.1)=(Ay z).map (·.1):=by intro z;rfl)
  (v:((a.map (·.1)).all (BQ os)&&Ib (a.map (·.1))&&Nat.beq a.length os')=true:=by kernel_rfl)
  (o:∀z,(DK os (Ay z)&&Mt [] (Ay z)&&Nc [] fx&&Im hs&&Nq n (FZ c k)&&((a++b).map (·.1)).all (BQ os))=true:=by intro z;kernel_rfl):LO P n C c k (Ad ss hs) Q:=
 A9 co hm f xs _ (a++b) e Ay fl q j (fun z w r g=>A8 K w co g a b (Ay z) (θ r) (x r g) (fun H=>i r H) (fun H=>d z r H) (m z) (fun H=>hx r H) (fun H=>t z r H) v (he z)) h p u s l o
theorem IC{fx:List Nat}(co:COx C os fx)(v:PT os β)(lf:Lf)(k:v.m=some y)(h:HL L y)(i:∀r (g:Gd C r),v.n ⟨⟨C.l,r,fun _ τ'=>LW P n C c τ' Q,fun _ _=>False⟩,L,C,_,co,g,rfl⟩)
  (j:∀l r Q a,Bs r os v.a τ (fun τ _=>FX fx lf τ (Q .normal))=v.q ⟨l,r,Q,a⟩:=by intro l r Q P;kernel_rfl):LW P n C c τ Q:=
 ZJE co.ok co.O co.F v.a lf (fun r Φ=>v.q ⟨C.l,r,fun _=>Φ,fun _ _=>False⟩) (fun r Φ=>j _ r (fun _=>Φ) _) fun r b d e f=>v.ok _ (i r ⟨b,d,e,f⟩) y k h
theorem BW{q:Prop}[Decidable q]{m:Option β}{G:Prop}(hm:(if q then m else none)=some y)(h:q→m=some y→G):G:=h (BO hm).1 (BO hm).2
theorem rg{c:Code}(h:LO P n C c 0 τ Q)(hs:vA c=true:=by kernel_rfl):LW P n C c τ Q:=Zrn hs h
end
end Go.Eng
