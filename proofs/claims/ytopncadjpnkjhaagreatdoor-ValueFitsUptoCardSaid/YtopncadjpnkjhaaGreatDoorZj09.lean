import Derived.Test.YtopncadjpnkjhaaGreatDoorZj08
import Derived.Test.YtopncadjpnkjhaaGreatDoorZj00
namespace Go.Eng
set_option linter.all false
open Go Go.RowKit
abbrev vL{α:Type}(e:α→List D)(xs:List α):AV:=.d (.list (xs.map e))
abbrev vS(s:ByteArray):AV:=.d (.str s)
abbrev vI(x:Int):AV:=.d (.int .i64 x)
abbrev vN(x:Nat):AV:=.d (.int .i64 (x:Int))
abbrev vB(x:Bool):AV:=.d (.bool x)
abbrev nl:Lf:=⟨[],[],[],[]⟩
abbrev pp(n:Nat):Nat×AV:=(n,.ptr (1,n) 0 0)
abbrev kk(d:Nat)(e:EK)(sz:Nat)(c:List AV):Ab×Blk:=((1,d),⟨0,true,e,sz,c⟩)
abbrev nG{α β:Type}:α→List β:=fun _=>[]
theorem nH{α:Type}{p:α→Prop}:∀x,p x→p x:=fun _ h=>h
abbrev cD(l:List D):List AV:=l.map .d
abbrev AI(ls:List Nat):Lf:=⟨ls,[],[],[]⟩
abbrev Ad(ls:List Nat)(ks:List (Ab×Bool)):Lf:=⟨ls,ks,[],[]⟩
class Rw (α:Type) where
 e:α→List D
 f:α→List D
 z:α
 s:Nat
 len:∀x,(e x).length=s
 ef:∀x,e x=f x
 s0:s≠0
instance:Rw ByteArray:=⟨AQ,AQ,⟨#[]⟩,1,fun _=>rfl,fun _=>rfl,by decide⟩
instance:Rw Bool:=⟨AE,AE,false,1,fun _=>rfl,fun _=>rfl,by decide⟩
instance:Rw Raw:=⟨A5,A5,qq,4,fun _=>rfl,fun _=>rfl,by decide⟩
instance:Rw Val:=⟨AF,Af,Ku,7,fun _=>by rw[Gi];rfl,Gi,by decide⟩
instance:Rw Pr:=⟨Ay,Ci,y9,14,fun _=>by rw[J5];rfl,J5,by decide⟩
instance:Rw Slt:=⟨At,Bq,qu,8,fun _=>by rw[JT];rfl,JT,by decide⟩
instance:Rw Nt:=⟨BK,BK,y8,8,fun _=>rfl,fun _=>rfl,by decide⟩
instance:Rw Fld:=⟨Ap,Ap,qB,16,fun _=>rfl,fun _=>rfl,by decide⟩
instance:Rw Spn:=⟨B8,B8,pq,2,fun _=>rfl,fun _=>rfl,by decide⟩
instance:Rw Msg:=⟨Au,Au,qb,5,fun _=>rfl,fun _=>rfl,by decide⟩
instance:Rw Itm:=⟨B7,B7,qe,3,fun _=>rfl,fun _=>rfl,by decide⟩
instance:Rw Enm:=⟨Bj,Bj,pr,5,fun _=>rfl,fun _=>rfl,by decide⟩
instance:Rw Mth:=⟨FW,FW,qg,5,fun _=>rfl,fun _=>rfl,by decide⟩
instance:Rw Svc:=⟨CH,CH,qh,3,fun _=>rfl,fun _=>rfl,by decide⟩
instance:Rw Prb:=⟨Ae,Ae,pk,3,fun _=>rfl,fun _=>rfl,by decide⟩
inductive Lv (σ ξ ρ:Type) where
 |nx (v:σ)
 |ex (b:ξ)
 |rt (y:ρ)
structure En where
 l:Nat
 r:Ren
 Q:Exit→St→Prop
 P:AV→List Blk→Prop
structure Gd (C:Cx) (r:Ren):Prop where
 θ:r.θ=C.θ
 H:r.H0=C.H0
 κ:r.κ=C.κ
 no:r.no=C.no
structure COx (C:Cx) (os:Nat) (fx:List Nat):Prop where
 ok:CxOk C
 O:C.outs=os
 F:C.fx=fx
 W:∀q,q<os→C.no (C.κ (0,q))
abbrev CO(C:Cx)(os:Nat):Prop:=COx C os (HF os)
def HL{β:Type}(L:β→Prop)(y:β):Prop:=L y
structure Ev (os:Nat) (β:Type) where
 E:En
 L:β→Prop
 C:Cx
 fx:List Nat
 co:COx C os fx
 g:Gd C E.r
 hl:E.l=C.l
structure PT (os:Nat) (β:Type) where
 a:AT
 q:En→Prop
 m:Option β
 n:Ev os β→Prop
 ok:∀E:Ev os β,n E→∀y,m=some y→HL E.L y→q E.E
section
variable {os:Nat} {β:Type}
structure Sp where
 w:AT→AT
 p:En→Prop
 c:Prop
 d:Decidable c
 ok:c→∀E,p E
structure Sz where
 w:AT→AT
 p:En→Prop
 ok:∀E,p E
theorem Bs{c:Prop}[d:Decidable c]{m:Option β}{y:β}(h:(if c then m else none)=some y):c∧m=some y:=by
 grind
theorem bind_some{γ:Type}{m:Option γ}{k:γ→Option β}{y:β}(h:m.bind k=some y):∃x,m=some x∧k x=some y:=by
 cases m with
 |none=>cases h
 |some x=>exact⟨x,rfl,h⟩
@[reducible] def vs(s:Sp)(k:PT os β):PT os β:=⟨s.w k.a,fun E=>s.p E∧k.q E,@ite _ s.c s.d k.m none,k.n,fun E d y hm c=>by
 obtain⟨a,b⟩:=@Bs _ _ s.d _ _ hm
 exact⟨s.ok a E.E,k.ok E d y b c⟩⟩
@[reducible] def vg(b:Bool)(s:Sp)(k:PT os β):PT os β:=⟨s.w k.a,fun E=>(b=true→s.p E)∧k.q E,@ite _ (b=true→s.c) (@instDecidableForall _ _ _ s.d) k.m none,k.n,fun E f y hm d=>by
 obtain⟨a,c⟩:=@Bs _ _ (@instDecidableForall _ _ _ s.d) _ _ hm
 exact⟨fun e=>s.ok (a e) E.E,k.ok E f y c d⟩⟩
@[reducible] def vz(s:Sz)(k:PT os β):PT os β:=⟨s.w k.a,fun E=>s.p E∧k.q E,k.m,k.n,fun E b y hm a=>⟨s.ok E.E,k.ok E b y hm a⟩⟩
@[reducible] def vy(b:Bool)(s:Sz)(k:PT os β):PT os β:=⟨s.w k.a,fun E=>(b=true→s.p E)∧k.q E,k.m,k.n,fun E c y hm a=>⟨fun _=>s.ok E.E,k.ok E c y hm a⟩⟩
@[reducible] def v2(s:Sp)(b c:En→Prop)(h:s.c→∀E,b E∧c E)(k:PT os β):PT os β:=⟨s.w k.a,fun E=>b E∧c E∧k.q E,@ite _ s.c s.d k.m none,k.n,fun E f y hm e=>by
 obtain⟨a,d⟩:=@Bs _ _ s.d _ _ hm
 exact⟨(h a E.E).1,(h a E.E).2,k.ok E f y d e⟩⟩
@[reducible] def vw(w:AT→AT)(k:PT os β):PT os β:=⟨w k.a,k.q,k.m,k.n,k.ok⟩
@[reducible] def wg(k:PT os β):PT os β:=⟨.go k.a,k.q,k.m,k.n,k.ok⟩
@[reducible] def br(b:Bool)(t f:PT os β):PT os β:=⟨.br t.a f.a,fun E=>(b=true→t.q E)∧(b=false→f.q E),if b=true then t.m else f.m,fun E=>t.n E∧f.n E,fun E c y hm a=>
 ⟨fun e=>t.ok E c.1 y (by rw[Yi e]at hm;exact hm) a,fun e=>f.ok E c.2 y (by rw[Yj (by rw[e];decide)]at hm;exact hm) a⟩⟩
@[reducible] def bT(b:Bool)(t:PT os β):PT os β:=⟨.one true t.a,fun E=>(b=true→t.q E)∧(b=false→False),if b=true then t.m else none,t.n,fun E c y hm a=>by
 obtain⟨h,hm⟩:=Bs hm
 exact⟨fun _=>t.ok E c y hm a,fun e=>absurd (h.symm.trans e) (by decide)⟩⟩
@[reducible] def bF(b:Bool)(f:PT os β):PT os β:=⟨.one false f.a,fun E=>(b=true→False)∧(b=false→f.q E),if b=false then f.m else none,f.n,fun E c y hm a=>by
 obtain⟨h,hm⟩:=Bs hm
 exact⟨fun e=>absurd (e.symm.trans h) (by decide),fun _=>f.ok E c y hm a⟩⟩
@[reducible] def al{α:Type}(e:α→List D)(xs:List α)(neg:Bool)(k:Bool→PT os β):PT os β:=⟨(k neg).a,fun E=>∀b:Bool,(xs.map e≠[]→b=neg)→(k b).q E,(k neg).m,
 fun E=>(∀b,(k b).n E)∧∀b,xs=[]→(k b).m=(k neg).m,fun E a y hm c b f=>by
  by_cases h:xs=[]
  ·exact(k b).ok E (a.1 b) y ((a.2 b h).trans hm) c
  ·have:b=neg:=f (by intro d;exact h (Sx.1 d))
   subst this
   exact(k b).ok E (a.1 b) y hm c⟩
@[reducible] def dd:PT os β:=⟨.nil,fun _=>False,none,fun _=>True,fun _ _ _ h _=>by cases h⟩
@[reducible] def lf(p:En→Prop)(y:β):PT os β:=⟨.nil,p,some y,fun E=>HL E.L y→p E.E,fun E b z hm a=>b (by cases hm;exact a)⟩
@[reducible] def lc(s:St)(m:Option β):PT os β:=⟨.nil,fun E=>E.Q .normal s,m,fun E=>∀y,m=some y→HL E.L y→E.E.Q .normal s,fun E b y hm a=>b y hm a⟩
@[reducible] def H6(c:Prop)[Decidable c](p:En→Prop)(y:β):PT os β:=⟨.nil,p,if c then some y else none,fun E=>c→HL E.L y→p E.E,fun E d z hm b=>by
 obtain⟨a,hm⟩:=Bs hm
 cases hm
 exact d a b⟩
@[reducible] def lr(er:β→AV)(bs:β→List Blk)(y:β):PT os β:=lf (fun E=>E.P (er y) (bs y)) y
section
variable {σ ξ ρ:Type}
@[reducible] def Am(er:ρ→AV)(bs:ρ→List Blk)(y:ρ):PT os (Lv σ ξ ρ):=lf (fun E=>E.P (er y) (bs y)) (.rt y)
@[reducible] def ln(S:σ→St)(v:σ):PT os (Lv σ ξ ρ):=lf (fun E=>E.Q .normal (S v)) (.nx v)
@[reducible] def Ai(X:ξ→Nat×St)(b:ξ):PT os (Lv σ ξ ρ):=lf (fun E=>E.Q (.exit (X b).1) (X b).2) (.ex b)
end
section
variable {α:Type} [Rw α]
@[reducible] def ix(xs:List α)(i:Nat)(k:α→PT os β):PT os β:=
 ⟨.ds (Rw.f (xs.getD i Rw.z)) (k (xs.getD i Rw.z)).a,fun E=>HU (xs.map Rw.e) ((i:Nat):Int) (Rw.f (xs.getD i Rw.z))∧(k (xs.getD i Rw.z)).q E,xs[i]?.bind fun x=>(k x).m,fun E=>∀x,(k x).n E,fun E d y hm c=>by
  obtain⟨x,a,b⟩:=bind_some hm
  have e:xs.getD i Rw.z=x:=by rw[Yu,a];rfl
  rw[e]
  exact⟨jd a Rw.ef,(k x).ok E (d x) y b c⟩⟩
@[reducible] def CB(xs:List α)(i:Int)(k:α→PT os β):PT os β:=
 ⟨.ds (Rw.f (xs.getD i.toNat Rw.z)) (k (xs.getD i.toNat Rw.z)).a,fun E=>HU (xs.map Rw.e) i (Rw.f (xs.getD i.toNat Rw.z))∧(k (xs.getD i.toNat Rw.z)).q E,if 0≤i then xs[i.toNat]?.bind fun x=>(k x).m else none,fun E=>∀x,(k x).n E,fun E g y hm d=>by
  obtain⟨b,hm⟩:=Bs hm
  obtain⟨x,a,c⟩:=bind_some hm
  have e:xs.getD i.toNat Rw.z=x:=by rw[Yu,a];rfl
  have f:=(Yd.1 a).1
  exact⟨gZ b (by omega) Rw.ef,by rw[e];exact(k x).ok E (g x) y c d⟩⟩
@[reducible] def A8(b:Bool)(xs:List α)(i:Int)(k:α→PT os β):PT os β:=
 ⟨.ds (Rw.f (xs.getD i.toNat Rw.z)) (k (xs.getD i.toNat Rw.z)).a,fun E=>(b=true→HU (xs.map Rw.e) i (Rw.f (xs.getD i.toNat Rw.z)))∧(k (xs.getD i.toNat Rw.z)).q E,if(b=true→0≤i∧i<xs.length)then(k (xs.getD i.toNat Rw.z)).m else none,fun E=>∀x,(k x).n E,fun E d y hm c=>by
  obtain⟨a,hm⟩:=Bs hm
  exact⟨fun e=>gZ (a e).1 (a e).2 Rw.ef,(k _).ok E (d _) y hm c⟩⟩
@[reducible] def ca(xs:List α)(j:Nat)(k:α→PT os β):PT os β:=
 ⟨.cs ((Rw.f (xs.getD j Rw.z)).map .d) (k (xs.getD j Rw.z)).a,fun E=>Dd (Ac Rw.e xs) (j*Rw.s α) ((Rw.f (xs.getD j Rw.z)).map .d)∧(k (xs.getD j Rw.z)).q E,xs[j]?.bind fun x=>(k x).m,fun E=>∀x,(k x).n E,fun E d y hm c=>by
  obtain⟨x,a,b⟩:=bind_some hm
  have e:xs.getD j Rw.z=x:=by rw[Yu,a];rfl
  rw[e]
  exact⟨rW a Rw.len Rw.ef,(k x).ok E (d x) y b c⟩⟩
theorem lK{xs:List α}{j o m:Nat}(a:Nat.ble (o+m) (Rw.s α)=true)(h:j<xs.length):Dd (Ac Rw.e xs) (j*Rw.s α+o) ((((Rw.f (xs.getD j Rw.z)).map AV.d).drop o).take m):=by
 have hl:((Rw.f (xs.getD j Rw.z)).map AV.d).length=Rw.s α:=by rw[YD,←Rw.ef,Rw.len]
 have a:=Yf a
 exact rl h Rw.len Rw.ef (by rw[YO,Fw,hl,Hd (by omega)]) (by rw[YO,Fw,hl];omega)
@[reducible] def cp(xs:List α)(j o m:Nat)(k:α→PT os β)(f:Nat.ble (o+m) (Rw.s α)=true:=by kernel_rfl):PT os β:=
 ⟨.cs ((((Rw.f (xs.getD j Rw.z)).map AV.d).drop o).take m) (k (xs.getD j Rw.z)).a,fun E=>Dd (Ac Rw.e xs) (j*Rw.s α+o) ((((Rw.f (xs.getD j Rw.z)).map AV.d).drop o).take m)∧(k (xs.getD j Rw.z)).q E,xs[j]?.bind fun x=>(k x).m,fun E=>∀x,(k x).n E,fun E d y hm c=>by
  obtain⟨x,a,b⟩:=bind_some hm
  have e:xs.getD j Rw.z=x:=by rw[Yu,a];rfl
  exact⟨lK f (Yd.1 a).1,by rw[e];exact(k x).ok E (d x) y b c⟩⟩
@[reducible] def RQ(b:Bool)(xs:List α)(j:Nat)(k:α→PT os β):PT os β:=
 ⟨.cs ((Rw.f (xs.getD j Rw.z)).map .d) (k (xs.getD j Rw.z)).a,fun E=>(b=true→Dd (Ac Rw.e xs) (j*Rw.s α) ((Rw.f (xs.getD j Rw.z)).map .d))∧(k (xs.getD j Rw.z)).q E,if(b=true→j<xs.length)then(k (xs.getD j Rw.z)).m else none,fun E=>∀x,(k x).n E,fun E d y hm c=>by
  obtain⟨a,hm⟩:=Bs hm
  exact⟨fun e=>fE (a e) Rw.len Rw.ef,(k _).ok E (d _) y hm c⟩⟩
@[reducible] def mu(b:Bool)(xs:List α)(j o m:Nat)(k:α→PT os β)(f:Nat.ble (o+m) (Rw.s α)=true:=by kernel_rfl):PT os β:=
 ⟨.cs ((((Rw.f (xs.getD j Rw.z)).map AV.d).drop o).take m) (k (xs.getD j Rw.z)).a,fun E=>(b=true→Dd (Ac Rw.e xs) (j*Rw.s α+o) ((((Rw.f (xs.getD j Rw.z)).map AV.d).drop o).take m))∧(k (xs.getD j Rw.z)).q E,if(b=true→j<xs.length)then(k (xs.getD j Rw.z)).m else none,fun E=>∀x,(k x).n E,fun E d y hm c=>by
  obtain⟨a,hm⟩:=Bs hm
  exact⟨fun e=>lK f (a e),(k _).ok E (d _) y hm c⟩⟩
@[reducible] def st(xs:List α)(j:Nat)(y:α):Sp:=⟨.cs (Ac Rw.e (xs.set j y)),fun _=>Ha (Ac Rw.e xs) (j*Rw.s α) ((Rw.f y).map .d) (Ac Rw.e (xs.set j y)),j<xs.length,inferInstance,fun h _=>uq h Rw.len Rw.ef⟩
@[reducible] def Ag(xs:List α):Sz:=⟨.num ((xs.length:Nat):Int),fun _=>Bm ((xs.map (Rw.e (α:=α))).length:Nat) ((xs.length:Nat):Int),fun _=>wD _ _⟩
@[reducible] def fl(xs:List α):Sz:=⟨id,fun _=>Gv (Ac Rw.e xs),fun _=>D2 _ _⟩
@[reducible] def fz(xs:List α):Sz:=⟨id,fun _=>F3 (Ac Rw.e xs) 0 xs.length (Rw.s α) (xs.map Rw.e),fun _=>WH _ Rw.s0 Rw.len⟩
@[reducible] def fr(xs:List α):Sz:=⟨.av (.d (.list (xs.map Rw.e))),fun _=>F3 (Ac Rw.e xs) 0 xs.length (Rw.s α) (xs.map Rw.e),fun _=>WH _ Rw.s0 Rw.len⟩
@[reducible] def ap(xs:List α)(y:α)(k:PT os β):PT os β:=⟨.nat 1 (.cs (Ac Rw.e [y]) (.cs (Ac Rw.e (xs++[y])) (.nat (xs++[y]).length k.a))),
 fun E=>EL (Rw.s α) [] (.d (.list [Rw.f y])) 1 (Ac Rw.e [y])∧KP (Ac Rw.e xs) 0 xs.length 1 (Rw.s α) 256 (Ac Rw.e [y]) (Ac Rw.e (xs++[y])) (xs++[y]).length∧k.q E,
 if xs.length<549755813887 then k.m else none,k.n,fun E b z hm a=>by
  obtain⟨c,hm⟩:=Bs hm
  exact⟨gy _ Rw.len Rw.ef,VG xs [y] Rw.len rfl rfl (by rw[List.length_singleton];omega),k.ok E b z hm a⟩⟩
@[reducible] def aq(xs ys:List α)(k:PT os β):PT os β:=⟨.nat ys.length (.cs (Ac Rw.e ys) (.cs (Ac Rw.e (xs++ys)) (.nat (xs++ys).length k.a))),
 fun E=>EL (Rw.s α) [] (.d (.list (ys.map Rw.e))) ys.length (Ac Rw.e ys)∧KP (Ac Rw.e xs) 0 xs.length ys.length (Rw.s α) 256 (Ac Rw.e ys) (Ac Rw.e (xs++ys)) (xs++ys).length∧k.q E,
 if xs.length+ys.length<549755813888 then k.m else none,k.n,fun E b z hm a=>by
  obtain⟨c,hm⟩:=Bs hm
  exact⟨VJ _ _ Rw.len,VG xs ys Rw.len rfl rfl (by omega),k.ok E b z hm a⟩⟩
@[reducible] def a1(y:α)(k:PT os β):PT os β:=⟨.nat 1 (.cs (Ac Rw.e [y]) k.a),fun E=>EL (Rw.s α) [] (.d (.list [Rw.f y])) 1 (Ac Rw.e [y])∧LX 1 256∧k.q E,k.m,k.n,fun E b z hm a=>⟨gy _ Rw.len Rw.ef,by unfold LX;decide,k.ok E b z hm a⟩⟩
@[reducible] def a0(ys:List α)(k:PT os β):PT os β:=⟨.nat ys.length (.cs (Ac Rw.e ys) k.a),fun E=>EL (Rw.s α) [] (.d (.list (ys.map Rw.e))) ys.length (Ac Rw.e ys)∧LX ys.length 256∧k.q E,if ys.length<549755813888 then k.m else none,k.n,fun E b z hm a=>by
  obtain⟨c,hm⟩:=Bs hm
  exact⟨VJ _ _ Rw.len,by unfold LX;omega,k.ok E b z hm a⟩⟩
@[reducible] def X4(xs:List α)(y z:α)(k:PT os β):PT os β:=⟨.nat 2 (.cs (Ac Rw.e [y,z]) (.cs (Ac Rw.e (xs++[y,z])) (.nat (xs++[y,z]).length k.a))),
 fun E=>EL (Rw.s α) [] (.d (.list [Rw.f y,Rw.f z])) 2 (Ac Rw.e [y,z])∧KP (Ac Rw.e xs) 0 xs.length 2 (Rw.s α) 256 (Ac Rw.e [y,z]) (Ac Rw.e (xs++[y,z])) (xs++[y,z]).length∧k.q E,
 if xs.length<549755813886 then k.m else none,k.n,fun E b w hm a=>by
  obtain⟨c,hm⟩:=Bs hm
  refine⟨?_,VG xs [y,z] Rw.len rfl rfl (by simp only[EW,Hc];omega),k.ok E b w hm a⟩
  have:=VJ (sz:=Rw.s α) (e:=Rw.e) ([]:List AV) [y,z] Rw.len
  rw[←Rw.ef,←Rw.ef];exact this⟩
@[reducible] def ms(m:Nat)(z:α)(a:List AV)(d:(Rw.e z).map .d=a)(k:PT os β):PT os β:=⟨.nat (List.replicate m z).length (.cs (Ac Rw.e (List.replicate m z)) k.a),
 fun E=>Z3 ((m:Nat):Int) ((m:Nat):Int) 256 (List.replicate m z).length a (Ac Rw.e (List.replicate m z))∧k.q E,if m≤549755813888 then k.m else none,k.n,fun E c y hm b=>by
  obtain⟨e,hm⟩:=Bs hm
  exact⟨⟨by rw[Z7],Int.le_refl _,by omega,by rw[Z7];exact wM d m⟩,k.ok E c y hm b⟩⟩
@[reducible] def rn(j d n:Nat)(xs:List α)(k:PT os β):PT os β:=⟨.reb j d xs.length (Ac Rw.e xs) k.a,
 fun E=>(n=xs.length∧0*Rw.s α≤(Ac (Rw.e (α:=α)) xs).length∧(Ac Rw.e xs).drop (0*Rw.s α)=Ac Rw.e xs)∧k.q E,if n=xs.length then k.m else none,k.n,fun E c y hm b=>by
  obtain⟨a,hm⟩:=Bs hm
  exact⟨⟨a,by rw[LC];exact D0 _,by rw[LC];rfl⟩,k.ok E c y hm b⟩⟩
@[reducible] def H2(n:Nat)(xs:List α):Sp:=⟨.av (.d (.list (xs.map Rw.e))),fun _=>F3 (Ac Rw.e xs) 0 n (Rw.s α) (xs.map Rw.e),n=xs.length,inferInstance,fun h _=>xg h (WH _ Rw.s0 Rw.len)⟩
@[reducible] def Jc(xs:List α)(j a:Nat)(vs:List D)(Y:α→α)(he:∀x,Rw.e (Y x)=(Rw.e x).take a++vs++(Rw.e x).drop (a+vs.length))(k:List α→PT os β)(f:Nat.ble (a+vs.length) (Rw.s α)=true:=by kernel_rfl):PT os β:=
 ⟨.cs (Ac Rw.e (xs.set j (Y (xs.getD j Rw.z)))) (k (xs.set j (Y (xs.getD j Rw.z)))).a,fun E=>Ha (Ac Rw.e xs) (j*Rw.s α+a) (vs.map .d) (Ac Rw.e (xs.set j (Y (xs.getD j Rw.z))))∧(k (xs.set j (Y (xs.getD j Rw.z)))).q E,xs[j]?.bind fun x=>(k (xs.set j (Y x))).m,fun E=>∀l,(k l).n E,fun E g y hm d=>by
  obtain⟨x,b,c⟩:=bind_some hm
  have e:xs.getD j Rw.z=x:=by rw[Yu,b];rfl
  exact⟨vC (Yd.1 b).1 Rw.len (Yf f) (he _),by rw[e];exact(k _).ok E (g _) y c d⟩⟩
@[reducible] def rb(j d n:Nat)(xs:List α)(off:Nat)(k:PT os β):PT os β:=⟨.reb j d (xs.drop off).length (Ac Rw.e (xs.drop off)) k.a,
 fun E=>(n=(xs.drop off).length∧off*Rw.s α≤(Ac (Rw.e (α:=α)) xs).length∧(Ac Rw.e xs).drop (off*Rw.s α)=Ac Rw.e (xs.drop off))∧k.q E,if n=(xs.drop off).length∧off≤xs.length then k.m else none,k.n,fun E c y hm b=>by
  obtain⟨a,hm⟩:=Bs hm
  exact⟨wE a.1 a.2 Rw.len,k.ok E c y hm b⟩⟩
end
@[reducible] def Jd(q:Nat)(vs:List AV)(low:∀r:Ren,EN r (0,q) vs)(k:PT os β)(c:Nat.ble (q+1) os=true:=by kernel_rfl):PT os β:=
 ⟨k.a,fun E=>Jn E.r (0,q)∧EN E.r (0,q) vs∧k.q E,k.m,k.n,fun E b y hm a=>⟨⟨rfl,by rw[E.g.no,E.g.κ];exact E.co.W q (Yf c)⟩,low _,k.ok E b y hm a⟩⟩
inductive Bd
 |no
 |nt (n:Nat)
 |it (x:Int)
def Bd.ov:Bd→Option AV
 |.no=>none
 |.nt n=>some (.d (.int .i64 (n:Int)))
 |.it x=>some (.d (.int .i64 x))
def Bd.vl(d:Nat):Bd→Nat
 |.no=>d
 |.nt n=>n
 |.it x=>x.toNat
def Bd.c:Bd→Prop
 |.it x=>0≤x
 |_=>True
instance (b:Bd):Decidable b.c:=by cases b<;>unfold Bd.c<;>infer_instance
theorem Bd.ok{d:Nat}{b:Bd}(h:b.c):CC d b.ov (b.vl d):=by
 cases b with
 |no=>rfl
 |nt n=>rfl
 |it x=>exact(Int.toNat_of_nonneg h).symm
@[reducible] def ss(s:ByteArray)(lo hi:Bd)(k:ByteArray→PT os β):PT os β:=
 ⟨.nat (lo.vl 0) (.nat (hi.vl s.size) (k (s.extract (lo.vl 0) (hi.vl s.size))).a),fun E=>CC 0 lo.ov (lo.vl 0)∧CC s.size hi.ov (hi.vl s.size)∧DY (lo.vl 0) (hi.vl s.size) s.size∧(k (s.extract (lo.vl 0) (hi.vl s.size))).q E,
 if lo.c∧hi.c∧lo.vl 0≤hi.vl s.size∧hi.vl s.size≤s.size then(k (s.extract (lo.vl 0) (hi.vl s.size))).m else none,fun E=>∀x,(k x).n E,fun E c y hm b=>by
  obtain⟨a,hm⟩:=Bs hm
  exact⟨Bd.ok a.1,Bd.ok a.2.1,a.2.2,(k _).ok E (c _) y hm b⟩⟩
@[reducible] def mW(b:Bool)(s:ByteArray)(lo hi:Bd)(k:ByteArray→PT os β):PT os β:=
 ⟨.nat (lo.vl 0) (.nat (hi.vl s.size) (k (s.extract (lo.vl 0) (hi.vl s.size))).a),fun E=>(b=true→CC 0 lo.ov (lo.vl 0))∧(b=true→CC s.size hi.ov (hi.vl s.size))∧(b=true→DY (lo.vl 0) (hi.vl s.size) s.size)∧(k (s.extract (lo.vl 0) (hi.vl s.size))).q E,
 if(b=true→lo.c∧hi.c∧lo.vl 0≤hi.vl s.size∧hi.vl s.size≤s.size)then(k (s.extract (lo.vl 0) (hi.vl s.size))).m else none,fun E=>∀x,(k x).n E,fun E d y hm c=>by
  obtain⟨a,hm⟩:=Bs hm
  exact⟨fun e=>Bd.ok (a e).1,fun e=>Bd.ok (a e).2.1,fun e=>(a e).2.2,(k _).ok E (d _) y hm c⟩⟩
section
variable {α:Type} [Rw α]
@[reducible] def sL(xs:List α)(lo hi:Bd)(k:List α→PT os β):PT os β:=
 ⟨.nat (lo.vl 0) (.nat (hi.vl xs.length) (.av (.d (.list (((xs.drop (lo.vl 0)).take (hi.vl xs.length-lo.vl 0)).map Rw.e))) (k ((xs.drop (lo.vl 0)).take (hi.vl xs.length-lo.vl 0))).a)),
 fun E=>CC 0 lo.ov (lo.vl 0)∧CC (xs.map (Rw.e (α:=α))).length hi.ov (hi.vl xs.length)∧DY (lo.vl 0) (hi.vl xs.length) (xs.map (Rw.e (α:=α))).length∧Ln (xs.map Rw.e) (Rw.s α) (lo.vl 0) (hi.vl xs.length) (((xs.drop (lo.vl 0)).take (hi.vl xs.length-lo.vl 0)).map Rw.e)∧(k ((xs.drop (lo.vl 0)).take (hi.vl xs.length-lo.vl 0))).q E,
 if lo.c∧hi.c∧lo.vl 0≤hi.vl xs.length∧hi.vl xs.length≤xs.length then(k ((xs.drop (lo.vl 0)).take (hi.vl xs.length-lo.vl 0))).m else none,fun E=>∀x,(k x).n E,fun E c y hm b=>by
  obtain⟨a,hm⟩:=Bs hm
  exact⟨Bd.ok a.1,by rw[YD];exact Bd.ok a.2.1,i7 a.2.2,i0 Rw.len,(k _).ok E (c _) y hm b⟩⟩
@[reducible] def yV(b:Bool)(xs:List α)(lo hi:Bd)(k:List α→PT os β):PT os β:=
 ⟨.nat (lo.vl 0) (.nat (hi.vl xs.length) (.av (.d (.list (((xs.drop (lo.vl 0)).take (hi.vl xs.length-lo.vl 0)).map Rw.e))) (k ((xs.drop (lo.vl 0)).take (hi.vl xs.length-lo.vl 0))).a)),
 fun E=>(b=true→CC 0 lo.ov (lo.vl 0))∧(b=true→CC (xs.map (Rw.e (α:=α))).length hi.ov (hi.vl xs.length))∧(b=true→DY (lo.vl 0) (hi.vl xs.length) (xs.map (Rw.e (α:=α))).length)∧(b=true→Ln (xs.map Rw.e) (Rw.s α) (lo.vl 0) (hi.vl xs.length) (((xs.drop (lo.vl 0)).take (hi.vl xs.length-lo.vl 0)).map Rw.e))∧(k ((xs.drop (lo.vl 0)).take (hi.vl xs.length-lo.vl 0))).q E,
 if(b=true→lo.c∧hi.c∧lo.vl 0≤hi.vl xs.length∧hi.vl xs.length≤xs.length)then(k ((xs.drop (lo.vl 0)).take (hi.vl xs.length-lo.vl 0))).m else none,fun E=>∀x,(k x).n E,fun E d y hm c=>by
  obtain⟨a,hm⟩:=Bs hm
  exact⟨fun e=>Bd.ok (a e).1,fun e=>by rw[YD];exact Bd.ok (a e).2.1,fun e=>i7 (a e).2.2,fun _=>i0 Rw.len,(k _).ok E (d _) y hm c⟩⟩
end
@[reducible] def sR(len off:Nat)(lo hi:Bd)(k:PT os β):PT os β:=
 ⟨.nat (lo.vl 0) (.nat (hi.vl len) (.nat (off+lo.vl 0) (.nat (hi.vl len-lo.vl 0) k.a))),fun E=>CC 0 lo.ov (lo.vl 0)∧CC len hi.ov (hi.vl len)∧DY (lo.vl 0) (hi.vl len) len∧Sr off (lo.vl 0) (hi.vl len) (off+lo.vl 0) (hi.vl len-lo.vl 0)∧k.q E,
 if lo.c∧hi.c∧lo.vl 0≤hi.vl len∧hi.vl len≤len then k.m else none,k.n,fun E c y hm b=>by
  obtain⟨a,hm⟩:=Bs hm
  exact⟨Bd.ok a.1,Bd.ok a.2.1,a.2.2,⟨rfl,rfl⟩,k.ok E c y hm b⟩⟩
@[reducible] def AR(n:Nat):Sz:=⟨.num ((n:Nat):Int),fun _=>Bm ((n:Nat):Int) ((n:Nat):Int),fun _=>rfl⟩
@[reducible] def wa(a b:Nat):Sp:=⟨.num ((a+b:Nat):Int),fun _=>B6 .i64 (((a:Nat):Int)+((b:Nat):Int)) ((a+b:Nat):Int),a+b<9223372036854775808,inferInstance,fun h _=>kN (by omega) (by omega) (by omega)⟩
@[reducible] def wi(x:Int):Sp:=⟨.num x,fun _=>B6 .i64 x x,-9223372036854775808≤x∧x<9223372036854775808,inferInstance,fun h _=>kN rfl h.1 h.2⟩
@[reducible] def wk(i:IntKind)(x:Int):Sz:=⟨.num (i.wrap x),fun _=>B6 i x (i.wrap x),fun _=>rfl⟩
@[reducible] def ir(i len sz:Nat):Sp:=⟨.nat (i*sz),fun _=>KJ ((i:Nat):Int) len 0 sz (i*sz),i<len,inferInstance,fun h _=>oy h⟩
@[reducible] def CM(i:Int)(len sz:Nat):Sp:=⟨.nat (i.toNat*sz),fun _=>KJ i len 0 sz (i.toNat*sz),0≤i∧i<len,inferInstance,fun h _=>sZ h.1 h.2⟩
@[reducible] def ib(s:ByteArray)(i:Nat)(k:UInt8→PT os β):PT os β:=
 ⟨.num ((s.data.toList.getD i 0).toNat:Nat) (k (s.data.toList.getD i 0)).a,fun E=>HO s (i:Nat) ((s.data.toList.getD i 0).toNat:Nat)∧(k (s.data.toList.getD i 0)).q E,s.data.toList[i]?.bind fun x=>(k x).m,fun E=>∀x,(k x).n E,fun E f y hm d=>by
  obtain⟨x,b,c⟩:=bind_some hm
  have e:s.data.toList.getD i 0=x:=by rw[Yu,b];rfl
  have a:=(Yd.1 b).1
  exact⟨jk (by simpa using a),by rw[e];exact(k x).ok E (f x) y c d⟩⟩
@[reducible] def EQ(b:Bool)(s:ByteArray)(i:Int)(k:UInt8→PT os β):PT os β:=
 ⟨.num ((s.data.toList.getD i.toNat 0).toNat:Nat) (k (s.data.toList.getD i.toNat 0)).a,fun E=>(b=true→HO s i ((s.data.toList.getD i.toNat 0).toNat:Nat))∧(k (s.data.toList.getD i.toNat 0)).q E,if(b=true→0≤i∧i<s.size)then(k (s.data.toList.getD i.toNat 0)).m else none,fun E=>∀x,(k x).n E,fun E d y hm c=>by
  obtain⟨a,hm⟩:=Bs hm
  exact⟨fun e=>gU (a e).1 (a e).2,(k _).ok E (d _) y hm c⟩⟩
@[reducible] def NB(s:ByteArray)(i:Int)(k:UInt8→PT os β):PT os β:=
 ⟨.num ((s.data.toList.getD i.toNat 0).toNat:Nat) (k (s.data.toList.getD i.toNat 0)).a,fun E=>HO s i ((s.data.toList.getD i.toNat 0).toNat:Nat)∧(k (s.data.toList.getD i.toNat 0)).q E,if 0≤i∧i<s.size then(k (s.data.toList.getD i.toNat 0)).m else none,fun E=>∀x,(k x).n E,fun E c y hm b=>by
  obtain⟨a,hm⟩:=Bs hm
  exact⟨gU a.1 a.2,(k _).ok E (c _) y hm b⟩⟩
@[reducible] def ad(a b:ByteArray)(k:ByteArray→PT os β):PT os β:=⟨(k (a++b)).a,fun E=>dp a b∧(k (a++b)).q E,if a.size+b.size≤9223372036854775807 then(k (a++b)).m else none,fun E=>∀x,(k x).n E,fun E e y hm d=>by
  obtain⟨c,hm⟩:=Bs hm
  exact⟨c,(k _).ok E (e _) y hm d⟩⟩
@[reducible] def Zr(k:IntKind)(x y:Int):Sz:=⟨.num (CK k x y),fun _=>Bm (CK k x y) (CK k x y),fun _=>rfl⟩
@[reducible] def y7(k:IntKind)(x y:Int):Sz:=⟨.num (Fq k x y),fun _=>Bm (Fq k x y) (Fq k x y),fun _=>rfl⟩
@[reducible] def y6(k:IntKind)(x:Int):Sz:=⟨.num (HR k x),fun _=>Bm (HR k x) (HR k x),fun _=>rfl⟩
def dy(k:IntKind)(x y:Int):Int:=x.fdiv (2^(min y.toNat k.bits))
def eF(k:IntKind)(x y:Int):Int:=k.wrap (x*2^(min y.toNat k.bits))
def dg(k:IntKind)(x y:Int):Int:=k.wrap (x.tdiv y)
def Kv(_:IntKind)(x y:Int):Int:=x.tmod y
@[reducible] def shr(i:IntKind)(x y:Int)(k:PT os β):PT os β:=v2 ⟨.num (dy i x y),fun _=>True,0≤y,inferInstance,fun _ _=>trivial⟩ (fun _=>NY 0 y) (fun _=>Bm (x.fdiv (2^(min y.toNat i.bits))) (dy i x y)) (fun h _=>⟨h,rfl⟩) k
@[reducible] def shl(i:IntKind)(x y:Int)(k:PT os β):PT os β:=v2 ⟨.num (eF i x y),fun _=>True,0≤y,inferInstance,fun _ _=>trivial⟩ (fun _=>NY 0 y) (fun _=>B6 i (x*2^(min y.toNat i.bits)) (eF i x y)) (fun h _=>⟨h,rfl⟩) k
@[reducible] def quo(i:IntKind)(x y:Int)(k:PT os β):PT os β:=v2 ⟨.num (dg i x y),fun _=>True,y≠0,inferInstance,fun _ _=>trivial⟩ (fun _=>NZ y 0) (fun _=>B6 i (x.tdiv y) (dg i x y)) (fun h _=>⟨h,rfl⟩) k
@[reducible] def rem(i:IntKind)(x y:Int)(k:PT os β):PT os β:=v2 ⟨.num (Kv i x y),fun _=>True,y≠0,inferInstance,fun _ _=>trivial⟩ (fun _=>NZ y 0) (fun _=>Bm (x.tmod y) (Kv i x y)) (fun h _=>⟨h,rfl⟩) k
structure KC (P:Program) (f:FuncId) (xs:List AV) {γ:Type} (M:Option γ) (e:γ→AV):Prop where
 k:∀l H y,M=some y→Zca P f l xs H (fun z H'=>z=e y∧H'=H)
 x:∀r,Aj r xs=xs
 e:∀r y,ren r (e y)=e y
@[reducible] def cl{P:Program}{f:FuncId}{xs:List AV}{γ:Type}[Inhabited γ]{M:Option γ}{e:γ→AV}(K:KC P f xs M e)(k:γ→PT os β):PT os β:=
 ⟨.call (e (M.getD default)) [] (k (M.getD default)).a,fun E=>FG P E.l E.r f xs [] (e (M.getD default))∧(k (M.getD default)).q E,M.bind fun y=>(k y).m,fun E=>∀y,(k y).n E,fun E h y hm g=>by
  obtain⟨x,a,c⟩:=bind_some hm
  have d:M.getD default=x:=by rw[a];rfl
  rw[d]
  exact⟨fun b _ _=>by rw[K.x,K.e];exact K.k _ b x a,(k x).ok E (h x) y c g⟩⟩
@[reducible] def Aw(b:Bool){P:Program}{f:FuncId}{xs:List AV}{γ:Type}[Inhabited γ]{M:Option γ}{e:γ→AV}(K:KC P f xs M e)(k:γ→PT os β):PT os β:=
 ⟨.call (e (M.getD default)) [] (k (M.getD default)).a,fun E=>(b=true→FG P E.l E.r f xs [] (e (M.getD default)))∧(k (M.getD default)).q E,if(b=true→M.isSome=true)then(k (M.getD default)).m else none,fun E=>∀y,(k y).n E,fun E j y hm h=>by
  obtain⟨d,hm⟩:=Bs hm
  refine⟨fun i c _ _=>?_,(k _).ok E (j _) y hm h⟩
  obtain⟨x,a⟩:=Y0.1 (d i)
  have g:M.getD default=x:=by rw[a];rfl
  rw[K.x,K.e,g];exact K.k _ c x a⟩
theorem KC.nrm{P:Program}{f:FuncId}{xs xs':List AV}{γ:Type}{M:Option γ}{e:γ→AV}(K:KC P f xs M e)(h:∀l H Post,Zca P f l xs H Post→Zca P f l xs' H Post)(a:∀r,Aj r xs'=xs'):KC P f xs' M e:=⟨fun l H y hm=>h _ _ _ (K.k l H y hm),a,K.e⟩
end
section
variable {P:Program} {T:Nat→Option TI} {n:Nat} {C:Cx} {τ σ:St} {Q:Exit→St→Prop} {os:Nat} {p:List Nat} {b:Code}
def pa:List Nat→Code→Code
 |[],c=>c
 |i::p,c=>GX [i] (pa p c)
def nY:Code→Bool
 |.seq _ _=>true
 |_=>false
def oT(i:Nat):Code→Bool
 |.block j _=>Nat.beq j i
 |_=>false
def a8:Code→Bool
 |.cond _ _ _=>true
 |_=>false
def og:Code→Bool
 |.loop _=>true
 |_=>false
theorem sq(h:LW P n C (pa (0::p) b) τ (fun e τ'=>match e with|.normal=>LW P n C (pa (1::p) b) τ' Q|e=>Q e τ'))(hs:nY (pa p b)=true:=by kernel_rfl):LW P n C (pa p b) τ Q:=by
 unfold pa at h
 generalize pa p b=c at*
 cases c with
 |seq x y=>exact yB h
 |_=>cases hs
def Ox(P:Program)(T:Nat→Option TI)(l n os:Nat)(r:Ren):Nat→Code→AT→St→(Exit→St→AT→Prop)→Prop
 |0,_,a,τ,K=>K .normal τ a
 |m+1,.seq x y,a,τ,K=>Cd P T l n os r x a τ (fun e τ' b=>match e with|.normal=>Ox P T l n os r m y b τ' K|e=>K e τ' b)
 |_,_,_,_,_=>False
def Lb:Nat→Code→Code
 |m+1,.seq _ y=>Lb m y
 |_,c=>c
def up:Nat→List Nat→List Nat
 |0,p=>p
 |m+1,p=>up m (1::p)
def RX:Nat→Code→Bool
 |m+1,.seq _ y=>RX m y
 |0,_=>true
 |_,_=>false
theorem kD:∀(m:Nat) (p:List Nat),RX m (pa p b)=true→Lb m (pa p b)=pa (up m p) b
 |0,p,_=>by
  show Lb 0 (pa p b)=pa p b
  cases pa p b<;>rfl
 |m+1,p,h=>by
  have a:=kD m (1::p)
  have e:pa (1::p) b=GX [1] (pa p b):=rfl
  show Lb (m+1) (pa p b)=pa (up m (1::p)) b
  generalize pa p b=c at*
  cases c with
  |seq x y=>
   have e:pa (1::p) b=y:=e
   rw[e]at a
   exact a h
  |_=>cases h
theorem gh(o:CxOk C)(q:AX P T)(hm:P.follows .mixedOrders=true){γ:Ab→Nat}{QQ:Exit→St→Prop}(r:∀e σ b,QQ e b→Wk n C σ b→QQ e σ):∀(m:Nat) (c:Code) (a:AT) (τ σ:St) (K:Exit→St→AT→Prop),Ox P T C.l n C.outs (C.r γ) m c a τ K→RG (C.r γ) C.l C.outs [] τ σ→
  (∀τ' d b,K .normal τ' d→RG (C.r γ) C.l C.outs [] τ' b→Bn P C.l n C.B (Lb m c) QQ b)→(∀e τ' d b,e≠.normal→K e τ' d→RG (C.r γ) C.l C.outs [] τ' b→QQ e b)→Bn P C.l n C.B c QQ σ
 |0,c,a,τ,σ,K,h,f,g,_=>by
  have:=g τ a σ h f
  have e:Lb 0 c=c:=by cases c<;>rfl
  grind
 |m+1,c,a,τ,σ,K,h,f,g,p=>by
  cases c with
  |seq x y=>
   refine Wf (Gf (EX o q hm x a τ σ _ h f) fun e b hi=>?_)
   obtain⟨τ',d,i,j,k,l⟩:=hi
   cases e with
   |normal=>exact Bn.weak (gh o q hm r m y d τ' i K j k g p) l
   |_=>exact r _ _ _ (p _ _ _ _ (by intro e;cases e) j k) l
  |_=>exact h.elim
variable {β:Type} {Post:AV→List Blk→Prop} {rs:List ResultVar} {L:β→Prop} {y:β}
theorem po{fx:List Nat}(co:COx C os fx)(i:AX P T)(hm:P.follows .mixedOrders=true){c:Code}(v:PT os β)(h:v.m=some y)(f:HL L y)
  (j:∀r (g:Gd C r),v.n ⟨⟨C.l,r,fun _ _=>False,Post⟩,L,C,_,co,g,rfl⟩) (k:∀l r Q Post,Cd P T l n os r c v.a τ (KF T rs os Post)=v.q ⟨l,r,Q,Post⟩:=by intro l r Q P;kernel_rfl):LW P n C c τ (FQ T rs os Post):=
 wR co.ok i hm co.O v.a rs (fun r Post=>v.q ⟨C.l,r,fun _ _=>False,Post⟩) (fun r Post=>k _ r _ Post) fun r a b d e=>v.ok _ (j r ⟨a,b,d,e⟩) y h f
theorem pH{fx:List Nat}(co:COx C os fx)(k:AX P T)(hm:P.follows .mixedOrders=true){c:Code}(v:PT os β)(lf a:Lf)(j:∀τ,FQ T rs os Post .ret τ→Q .ret τ)(h:v.m=some y)(i:HL L y)
  (m:∀r (g:Gd C r),v.n ⟨⟨C.l,r,Q,Post⟩,L,C,_,co,g,rfl⟩) (o:∀l r Q Post,Cd P T l n os r c v.a τ (KB T rs os fx r Post lf a Q)=v.q ⟨l,r,Q,Post⟩:=by intro l r Q P;kernel_rfl):LW P n C c τ Q:=
 xo co.ok k hm co.O co.F v.a lf a rs (fun r Q Post=>v.q ⟨C.l,r,Q,Post⟩) (o _) j fun r b d e f=>v.ok _ (m r ⟨b,d,e,f⟩) y h i
theorem pK{fx:List Nat}(co:COx C os fx)(I:AX P T)(hm:P.follows .mixedOrders=true)(m:Nat)(v:PT os β)(lf O:Lf)(H:∀τ,FQ T rs os Post .ret τ→Q .ret τ)(M:v.m=some y)(G:HL L y)
  (J:∀r (g:Gd C r),v.n ⟨⟨C.l,r,fun e τ'=>match e with|.normal=>LW P n C (pa (up m p) b) τ' Q|e=>Q e τ',Post⟩,L,C,_,co,g,rfl⟩)
  (K:∀l r Q Post,Ox P T l n os r m (pa p b) v.a τ (KB T rs os fx r Post lf O Q)=v.q ⟨l,r,Q,Post⟩:=by intro l r Q P;kernel_rfl) (hl:RX m (pa p b)=true:=by kernel_rfl):LW P n C (pa p b) τ Q:=by
 intro γ σ u F
 have s:=v.ok _ (J (C.r γ) ⟨rfl,rfl,rfl,rfl⟩) y M G
 rw[←K]at s
 generalize v.a=a at s
 rw[←co.O,←co.F]at s
 refine gh co.ok I hm (QQ:=fun e σ=>Is n C (Q e) σ) (fun e σ D hi hw=>?_) m _ _ _ _ _ s F (fun τ' q D d c=>?_) (fun e τ' q D w d c=>?_)
 ·obtain⟨k,t,o,N,f,h,j⟩:=hi
  exact⟨k,t,o,N,f,h,hw.trans j⟩
 ·simp only[KB]at d
  obtain⟨S,E,R,f,h,j⟩:=BQ (n:=n) co.ok q d c
  obtain⟨k,t,o,x,z,A,B⟩:=Ge (n:=n) co.ok f u h
  rw[kD m p hl]
  exact Bn.weak (z k o x A) (j.trans B)
 ·cases e with
  |normal=>exact absurd rfl w
  |ret=>exact .of u c (H _ ⟨.inr rfl,q,by rw[←co.O];exact d⟩)
  |exit i=>
   simp only[KB]at d
   obtain⟨S,E,R,f,h,j⟩:=BQ (n:=n) co.ok q d c
   obtain⟨k,t,o,x,z,A,B⟩:=Ge (n:=n) co.ok f u h
   exact⟨k,t,o,x,z,A,j.trans B⟩
  |_=>exact d.elim
theorem bk(i:Nat)(h:LW P n C (pa (0::p) b) τ (fun e τ'=>match e with|.exit j=>(match Nat.beq j i with|true=>Q .normal τ'|false=>Q (.exit j) τ')|e=>Q e τ'))(hs:oT i (pa p b)=true:=by kernel_rfl):LW P n C (pa p b) τ Q:=by
 unfold pa at h
 generalize pa p b=c at*
 cases c with
 |block j x=>exact sI i x (by rw[show j=i from Ya hs]) h
 |_=>cases hs
theorem cd(x:Bool){f g:Option β}(hm:(if x=true then f else g)=some y)(a:f=some y→LW P n C (pa (0::p) b) τ Q)(d:g=some y→LW P n C (pa (1::p) b) τ Q)(hs:a8 (pa p b)=true:=by kernel_rfl)(he:ev τ.s (kB (pa p b))=.d (.bool x):=by kernel_rfl):LW P n C (pa p b) τ Q:=by
 unfold pa at a d
 generalize pa p b=c at*
 cases c with
 |cond o u v=>exact w7 he (fun e=>a (by rw[Yi e]at hm;exact hm)) (fun e=>d (by rw[Yj (by rw[e];decide)]at hm;exact hm))
 |_=>cases hs
theorem lo(h:LL P n C (pa (0::p) b) τ Q)(hs:og (pa p b)=true:=by kernel_rfl):LW P n C (pa p b) τ Q:=by
 unfold pa at h
 generalize pa p b=c at*
 cases c with
 |loop x=>exact xM h
 |_=>cases hs
theorem ED(v:PT os β){fx:List Nat}(co:COx C os fx)(e:v.m=some y)(a:HL L y)(b:∀r (g:Gd C r),v.n ⟨⟨C.l,r,fun _ _=>False,Post⟩,L,C,_,co,g,rfl⟩)(r:Ren)(d:Gd C r)
  (c:∀l r Q Post,Nl T rs os τ v.a Post=v.q ⟨l,r,Q,Post⟩:=by intro l r Q P;kernel_rfl):FQ T rs os Post .normal τ:=
 ⟨.inl rfl,v.a,by rw[c C.l r (fun _ _=>False) Post];exact v.ok _ (b r d) y e a⟩
end
section
variable {σ ξ ρ:Type}
def Ak(B:σ→Option (Lv σ ξ ρ)):Nat→σ→Option (ξ ⊕ ρ)
 |0,_=>none
 |n+1,v=>match B v with
  |some (.nx a)=>Ak B n a
  |some (.ex b)=>some (.inl b)
  |some (.rt y)=>some (.inr y)
  |none=>none
def Ah:Nat:=4611686018427387904
def Z2(S:σ→St)(X:ξ→Nat×St)(er:ρ→AV)(bs:ρ→List Blk)(Q:Exit→St→Prop)(Post:AV→List Blk→Prop):Lv σ ξ ρ→Prop
 |.nx v=>Q .normal (S v)
 |.ex b=>Q (.exit (X b).1) (X b).2
 |.rt y=>Post (er y) (bs y)
variable {P:Program} {T:Nat→Option TI} {n:Nat} {C:Cx} {τ:St} {Q:Exit→St→Prop} {rs:List ResultVar} {os:Nat} {c:Code} {Post:AV→List Blk→Prop}
variable {S:σ→St} {X:ξ→Nat×St} {er:ρ→AV} {bs:ρ→List Blk} {B:σ→Option (Lv σ ξ ρ)}
def KL(P:Program)(T:Nat→Option TI)(n:Nat)(C:Cx)(c:Code)(rs:List ResultVar)(os:Nat)(S:σ→St)(X:ξ→Nat×St)(er:ρ→AV)(bs:ρ→List Blk)(B:σ→Option (Lv σ ξ ρ)):Prop:=
 ∀v o,B v=some o→∀(Q:Exit→St→Prop) (Post:AV→List Blk→Prop),(∀τ,FQ T rs os Post .ret τ→Q .ret τ)→HL (Z2 S X er bs Q Post) o→LW P n C c (S v) Q
theorem fM(g:KL P T n C c rs os S X er bs B)(f:∀τ,FQ T rs os Post .ret τ→Q .ret τ):∀(k:Nat) (v:σ) (o:ξ ⊕ ρ),Ak B k v=some o→
  (∀b,o=.inl b→Q (.exit (X b).1) (X b).2)→(∀y,o=.inr y→Post (er y) (bs y))→LL P n C c (S v) Q
 |0,v,o,h,_,_=>by cases h
 |k+1,v,o,h,d,e=>by
  rw[Ak]at h
  refine ub ?_
  cases a:B v with
  |none=>rw[a]at h;cases h
  |some w=>
   rw[a]at h
   refine g v w a _ Post (fun τ i=>f τ i) ?_
   cases w with
   |nx j=>exact fM g f k j o h d e
   |ex b=>cases h;exact d b rfl
   |rt y=>cases h;exact e y rfl
theorem mF{β:Type}{k:ξ ⊕ ρ→Option β}{N:Nat}{v:σ}{y:β}(i:KL P T n C c rs os S X er bs B)(h:∀τ,FQ T rs os Post .ret τ→Q .ret τ)(hm:(Ak B N v).bind k=some y)
  (f:∀b,k (.inl b)=some y→Q (.exit (X b).1) (X b).2) (g:∀z,k (.inr z)=some y→Post (er z) (bs z)):LL P n C c (S v) Q:=by
 obtain⟨o,d,a⟩:=bind_some hm
 exact fM i h N v o d (fun b e=>f b (e▸a)) (fun z e=>g z (e▸a))
theorem Az{g:ξ→Option ρ}{N:Nat}{v:σ}{y:ρ}(f:KL P T n C c rs os S X er bs B)(e:∀τ,FQ T rs os Post .ret τ→Q .ret τ)(hm:(Ak B N v).bind (Sum.elim g some)=some y)(d:HL (fun y=>Post (er y) (bs y)) y)
  (a:∀b,g b=some y→Q (.exit (X b).1) (X b).2) (hs:S v=τ:=by kernel_rfl):LL P n C c τ Q:=
 hs▸mF f e hm a fun z h=>by cases h;exact d
theorem I9{d a:Type}{f:d→St}{h:a→Nat×St}{e:Exit→St→Prop}{g:ξ→Option (Lv d a ρ)}{N:Nat}{v:σ}{y:Lv d a ρ}(l:KL P T n C c rs os S X er bs B)(k:∀τ,FQ T rs os Post .ret τ→Q .ret τ)(hm:(Ak B N v).bind (Sum.elim g fun z=>some (.rt z))=some y)(j:HL (Z2 f h er bs e Post) y)
  (i:∀b,g b=some y→Q (.exit (X b).1) (X b).2) (hs:S v=τ:=by kernel_rfl):LL P n C c τ Q:=
 hs▸mF l k hm i fun z m=>by cases m;exact j
end
theorem Ck{P:Program}{T:Nat→Option TI}{n:Nat}{f:FuncId}{fn:Func}{xs:List AV}{γ:Type}{M:Option γ}{e:γ→AV}(g:P.funcs[f]?=some fn)(i:fn.ntmps=n)(c:AX P T)(rs:List ResultVar)
  (h:∀C:Cx,CO C 0→∀y,M=some y→∀Post:AV→List Blk→Prop,HL (fun y=>Post (e y) []) y→LW P n C (pa [] (Ar fn)) (Aa (C7 0 xs) []) (FQ T rs 0 Post))
  (b:∀r,Aj r xs=xs:=by intro r;kernel_rfl) (he:∀r y,ren r (e y)=e y:=by intro r y;kernel_rfl)
  (d:fn.body=some (Ar fn):=by kernel_rfl) (a:(fn.name== "runtime.NumGoroutine")=false:=by kernel_rfl) (j:fn.results.toList=rs:=by kernel_rfl) (hl:Nat.ble xs.length n=true:=by kernel_rfl):KC P f xs M e:=
 ⟨fun l H y hm=>sg rs (Ar fn) (fun _=>.top) xs g d a i j (Yf hl) c (b _) fun B=>h _ ⟨gK l B _ H,rfl,rfl,fun _ h=>absurd h (Il _)⟩ y hm (fun z _=>z=e y∧H=H) ⟨rfl,rfl⟩,b,he⟩
end Go.Eng
namespace Go.Eng
set_option linter.all false
open Go Go.RowKit
def CS:Nat→List Blk→List (Ab×Blk)
 |_,[]=>[]
 |i,b::bs=>((0,i),b)::CS (i+1) bs
abbrev Cl:=(Ab→Prop)→Nat→Hp→(Nat→AV)→Prop
structure KO (P:Program) (f:FuncId) (os:Nat) (ys:List AV) (bi:List Blk) (Θ:Cl) {γ:Type} (M:Option γ) (e:γ→AV) (bs:γ→List Blk):Prop where
 k:∀l H (ks:List Ab) (gs:List Nat) (θ:Nat→AV),ks.length=os→HY l ks→ks.Nodup→Ig H (BY l ks gs θ H) (CS 0 bi) 0 ks→Θ (fun k=>k∈ks) l H θ→∀y,M=some y→
  Zca P f l (Aj (BY l ks gs θ H) ys) H (fun z H'=>z=ren (BY l ks gs θ H) (e y)∧H'=C6 H ks (Cn (BY l ks gs θ H) 0 (bs y)))
mutual
def H5(os:Nat):AV→Bool
 |.ref k _ _ _=>Nat.beq k.1 0&&Nat.ble (k.2+1) os
 |.ptr k _ _=>Nat.beq k.1 0&&Nat.ble (k.2+1) os
 |.mp k _=>Nat.beq k.1 0&&Nat.ble (k.2+1) os
 |.fn f xs ys=>(match f with|.yield _=>false|_=>true)&&HQ os xs&&HQ os ys
 |.agg xs=>HQ os xs
 |.tup xs=>HQ os xs
 |.top=>true
 |.d _=>true
 |.e0=>true
 |.p _=>true
 |.iptr _ _=>true
 |.ifc _ _ _=>true
def HQ(os:Nat):List AV→Bool
 |[]=>true
 |x::xs=>H5 os x&&HQ os xs
end
def Kl(os:Nat)(r a:Ren):Prop:=∀q,q<os→r.κ (0,q)=a.κ (0,q)∧r.γ (0,q)=a.γ (0,q)
theorem WD{os:Nat}{r c:Ren}(hs:Kl os r c){k:Ab}(h:(Nat.beq k.1 0&&Nat.ble (k.2+1) os)=true):r.κ k=c.κ k∧r.γ k=c.γ k:=by
 simp only[Yb]at h
 obtain⟨a,b⟩:=k
 have d:=Ya h.1
 have e:=Yf h.2
 simp only at d e
 subst d
 exact hs b e
mutual
theorem Wo{os:Nat}{r c:Ren}(hs:Kl os r c):∀x:AV,H5 os x=true→ren r x=ren c x
 |.ref k g off n,h=>by obtain⟨a,b⟩:=WD hs h;simp only[ren,a,b]
 |.ptr k g off,h=>by obtain⟨a,b⟩:=WD hs h;simp only[ren,a,b]
 |.mp k g,h=>by obtain⟨a,b⟩:=WD hs h;simp only[ren,a,b]
 |.fn f xs ys,h=>by
  simp only[H5,Yb]at h
  have a:=JS hs xs h.1.2
  have b:=JS hs ys h.2
  cases f<;>first|(simp only[ren,a,b];done)|(simp at h)
 |.agg xs,h=>by simp only[H5]at h;simp only[ren,JS hs xs h]
 |.tup xs,h=>by simp only[H5]at h;simp only[ren,JS hs xs h]
 |.top,_=>by simp[ren]
 |.d _,_=>by simp[ren]
 |.e0,_=>by simp[ren]
 |.p _,_=>by simp[ren]
 |.iptr _ _,_=>by simp[ren]
 |.ifc _ _ _,_=>by simp[ren]
theorem JS{os:Nat}{r a:Ren}(hs:Kl os r a):∀xs:List AV,HQ os xs=true→Aj r xs=Aj a xs
 |[],_=>by simp[Aj]
 |x::xs,h=>by
  simp only[HQ,Yb]at h
  simp only[Aj,Wo hs x h.1,JS hs xs h.2]
end
def EJ(os:Nat):List Blk→Prop
 |[]=>True
 |b::bs=>(Gv b.cells∨HQ os b.cells=true)∧b.live=true∧EJ os bs
theorem EJ.ren{os:Nat}{r a:Ren}(hs:Kl os r a):∀(bs:List Blk) (i:Nat),i+bs.length≤os→EJ os bs→Cn r i bs=Cn a i bs
 |[],_,_,_=>rfl
 |b::bs,i,hl,h=>by
  simp only[EW]at hl
  have d:Aj r b.cells=Aj a b.cells:=by
   rcases h.1 with c|e
   ·rw[Hr c,Hr c]
   ·exact JS hs _ e
  simp only[Cn,EJ.ren hs bs (i+1) (by omega) h.2.2,AA,d,(hs i (by omega)).2]
theorem EJ.live{os:Nat}:∀{bs:List Blk},EJ os bs→∀b∈bs,b.live=true
 |c::bs,h,b,a=>by
  rcases YK.1 a with rfl|a
  ·exact h.2.1
  ·exact EJ.live h.2.2 b a
theorem Hz:Gv []:=fun x a=>by cases a
theorem Db{P:Program}{T:Nat→Option TI}{n:Nat}{f:FuncId}{fn:Func}{ys:List AV}{bi:List Blk}{Θ:Cl}{γ:Type}{M:Option γ}{e:γ→AV}{bs:γ→List Blk}(I:P.funcs[f]?=some fn)(J:fn.ntmps=n)(F:AX P T)(u:List ResultVar)(os:Nat)
  (h:∀C:Cx,CO C os→Θ C.no C.l C.H0 C.θ→∀y,M=some y→∀a:AV→List Blk→Prop,HL (fun y=>a (e y) (bs y)) y→LW P n C (pa [] (Ar fn)) (Aa (C7 0 ys) (CS 0 bi)) (FQ T u os a))
  (he:∀y,H5 os (e y)=true:=by intro y;kernel_rfl) (v:∀y,EJ os (bs y):=by intro y;repeat(first|exact trivial|refine⟨.inl (D2 _ _),rfl,?_⟩|refine⟨.inl Hz,rfl,?_⟩|refine⟨.inr (by kernel_rfl),rfl,?_⟩)) (hl:∀y,(bs y).length=os:=by intro y;rfl) (o:GB os (CS 0 bi)=true:=by kernel_rfl)
  (G:fn.body=some (Ar fn):=by kernel_rfl) (c:(fn.name== "runtime.NumGoroutine")=false:=by kernel_rfl) (d:fn.results.toList=u:=by kernel_rfl) (L:Nat.ble ys.length n=true:=by kernel_rfl):KO P f os ys bi Θ M e bs:=
 ⟨fun l H ks g θ p i t D hΘ y hy=>by
  have hN:∀r,G9 l ks g r→Kl os r (BY l ks g θ H):=fun r d q K=>by
   obtain⟨w,x⟩:=d
   exact⟨congrFun w _,x q (by omega)⟩
  refine rJ u (Ar fn) ks g os θ ys (CS 0 bi) (e y) (bs y) (Y':=ren (BY l ks g θ H) (e y)) (bs':=Cn (BY l ks g θ H) 0 (bs y)) I G c J d (by rw[Cb];exact Yf L) F p i t o D rfl (hl y) (v y).live
   (fun r d=>Wo (hN r d) _ (he y)) (fun r d=>EJ.ren (hN r d) _ _ (by rw[hl];omega) (v y)) (fun C A E B s m N O j=>?_) ⟨rfl,rfl⟩
  refine h C ⟨A,E,B,fun q K=>?_⟩ (by rw[j,s,m,N];exact hΘ) y hy (fun z b=>z=e y∧b=bs y) ⟨rfl,rfl⟩
  rw[j,O]
  show(match A6 ks q with|some k=>k|none=>(0,0))∈ks
  rw[BT,Ye (by omega)]
  exact Ju _⟩
def Ec(r:Ren):List (Ab×Blk)→List Nat
 |[]=>[]
 |(k,b)::a=>(r.γ k+b.g)::Ec r a
def BE(r a:Ren):Nat→List Blk→List (Ab×Blk)→Prop
 |i,b::bs,(k,c)::cs=>(b.live=true→c.live=true∧AA r (0,i) b=AA a k c)∧r.γ (0,i)+b.g=a.γ k+c.g∧BE r a (i+1) bs cs
 |_,[],[]=>True
 |_,_,_=>False
def FD:List Ab→Bool
 |[]=>true
 |k::ks=>!(ks.any (Bi k))&&FD ks
theorem Mi{κ:Ab→Ab}{os:Nat}(a:∀q k:Ab,Bk os q=true→Bk os k=true→q≠k→κ q≠κ k):∀(ks:List Ab),FD ks=true→ks.all (Bk os)=true→(ks.map κ).Nodup
 |[],_,_=>List.nodup_nil
 |k::ks,h,b=>by
  simp only[FD,Yb,YF]at h
  simp only[Hf,Yb]at b
  rw[Y4,List.nodup_cons]
  refine⟨fun hm=>?_,Mi a ks h.2 b.2⟩
  obtain⟨q,d,e⟩:=YU.1 hm
  have c:q≠k:=fun e'=>Qf h.1 (e'▸d)
  grind
section
variable {P:Program} {f:FuncId} {os os':Nat} {ys:List AV} {bi:List Blk} {Θ:Cl} {γ:Type} {M:Option γ} {e:γ→AV} {bs:γ→List Blk} {C:Cx} {r:Ren} {xs:List AV} {x:AV} {y:γ}
theorem Qx{fx:List Nat}(co:COx C os' fx)(g:Gd C r):∀q k:Ab,Bk os' q=true→Bk os' k=true→q≠k→r.κ q≠r.κ k:=by
 intro q k m j l he
 rw[g.κ]at he
 rcases Fa m with e|⟨e,h⟩<;>rcases Fa j with f|⟨f,i⟩
 ·obtain⟨a,b⟩:=q
  obtain⟨c,d⟩:=k
  simp only at e f
  subst e;subst f
  rw[co.ok.own,co.ok.own]at he
  grind
 ·obtain⟨a,b⟩:=q
  obtain⟨c,d⟩:=k
  simp only at e f i
  subst e;subst f
  rw[co.ok.own]at he
  have:=co.ok.out d (by rw[co.O];exact i)
  grind
 ·obtain⟨a,b⟩:=q
  obtain⟨c,d⟩:=k
  simp only at e h f
  subst e;subst f
  rw[co.ok.own]at he
  have:=co.ok.out b (by rw[co.O];exact h)
  grind
 ·obtain⟨a,b⟩:=q
  obtain⟨c,d⟩:=k
  simp only at e h f i
  subst e;subst f
  have:=co.ok.inj b d (by rw[co.O];exact h) (by rw[co.O];exact i) he
  grind
theorem J6{fx:List Nat}(co:COx C os' fx)(g:Gd C r):∀(ks:List Ab),ks.all (Bk os')=true→HY (C.l+1) (ks.map r.κ)
 |[],_=>trivial
 |k::ks,h=>by
  simp only[Hf,Yb]at h
  refine⟨?_,J6 co g ks h.2⟩
  rw[g.κ]
  obtain⟨a,b⟩:=k
  rcases Fa h.1 with c|⟨c,d⟩
  ·simp only at c;subst c;rw[co.ok.own];exact Yh _
  ·simp only at c d;subst c;exact SB (co.ok.out b (by rw[co.O];exact d))
theorem MA:∀(bi:List Blk) (i j:Nat),As (CS i bi) (0,i+j)=(bi[j]?).getD Ea
 |[],i,j=>by simp[CS,As]
 |b::bi,i,0=>by simp[CS,As,Bi]
 |b::bi,i,j+1=>by
  have a:=MA bi (i+1) j
  simp only[CS,As]
  have:Bi (0,i) (0,i+(j+1))=false:=by
   simp only[Bi,F7]
   right
   cases h:Nat.beq i (i+(j+1))with
   |false=>rfl
   |true=>have:=Ya h;omega
  grind
theorem MN{l:Ren}{d:Hp}:∀(bi:List Blk) (a:List (Ab×Blk)) (i:Nat) (B:List Blk),(∀j,As (CS 0 B) (0,i+j)=(bi[j]?).getD Ea)→BE l r i bi a→
  (∀p∈a,(d (r.κ p.1)).g=r.γ p.1+p.2.g∧(p.2.live=true→d (r.κ p.1)=AA r p.1 p.2))→Ig d l (CS 0 B) i ((a.map (·.1)).map r.κ)
 |[],[],i,B,_,_,_=>trivial
 |b::bi,(k,c)::a,i,B,f,h,g=>by
  have e:=f 0
  simp only[Y5,YE,DZ]at e
  obtain⟨o,q,m⟩:=h
  refine⟨?_,MN bi a (i+1) B (fun j=>?_) m fun p n=>g p (YH _ n)⟩
  ·rw[e]
   have s:=g _ (YM ..)
   grind
  ·have:=f (j+1)
   grind
 |[],_::_,_,_,_,h,_=>h.elim
 |_::_,[],_,_,_,h,_=>h.elim
theorem tj{H:Hp}{k:Ab}:updH H k (H k)=H:=by
 funext q
 by_cases h:q=k
 ·subst h;exact AH ..
 ·exact Av _ _ h
theorem VZ{g:Ren}{d:Hp}:∀(bi:List Blk) (a:List (Ab×Blk)) (i:Nat),BE g r i bi a→(∀b∈bi,b.live=true)→(∀p∈a,p.2.live=true→d (r.κ p.1)=AA r p.1 p.2)→C6 d ((a.map (·.1)).map r.κ) (Cn g i bi)=d
 |[],[],_,_,_,_=>rfl
 |b::bi,(k,c)::a,i,h,hl,f=>by
  obtain⟨l,q,m⟩:=h
  have e:=l (hl b (YM ..))
  have j:=f _ (YM ..) e.1
  simp only[Y4,C6,Cn]
  rw[e.2,←j,tj]
  exact VZ bi a (i+1) m (fun b n=>hl b (YH _ n)) fun p o=>f p (YH _ o)
 |[],_::_,_,h,_,_=>h.elim
 |_::_,[],_,h,_,_=>h.elim
theorem V2{j:Ren}:∀(d:List Blk) (f a:List (Ab×Blk)) (i:Nat) (g:Hp),BE j r i d a→(∀b∈d,b.live=true)→f.map (·.1)=a.map (·.1)→C6 g ((f.map (·.1)).map r.κ) (Cn j i d)=CG r a g
 |[],[],[],_,_,_,_,_=>rfl
 |[],_::_,[],_,_,_,_,h=>by cases h
 |b::d,[],_::_,_,_,_,_,h=>by cases h
 |b::d,(k,c)::f,(q,o)::a,i,g,h,hl,he=>by
  obtain⟨l,p,m⟩:=h
  simp only[Y4,List.cons.injEq]at he
  obtain⟨rfl,he⟩:=he
  have e:=l (hl b (YM ..))
  simp only[Y4,C6,Cn,CG]
  rw[e.2]
  exact V2 d f a (i+1) _ m (fun b n=>hl b (YH _ n)) he
 |_::_,_,[],_,_,h,_,_=>h.elim
 |[],_,_::_,_,_,h,_,_=>h.elim
def rC(C:Cx)(r:Ren)(a:List (Ab×Blk))(θ:Nat→AV)(H:Hp):Ren:=BY (C.l+1) ((a.map (·.1)).map r.κ) (Ec r a) θ H
def Th(Θ:Cl)(C:Cx)(r:Ren)(b c:List (Ab×Blk))(θ:Nat→AV):Prop:=
 ∀a,(∀p∈c,(a (r.κ p.1)).g=r.γ p.1+p.2.g∧(p.2.live=true→a (r.κ p.1)=AA r p.1 p.2))→(∀k:Ab,k.1≤C.l→¬r.no k→a k=r.H0 k)→Θ (fun k=>k∈(b.map (·.1)).map r.κ) (C.l+1) a θ
theorem CQ(K:KO P f os ys bi Θ M e bs)(hy:M=some y){fx:List Nat}(co:COx C os' fx)(g:Gd C r)(a k:List (Ab×Blk))(θ:Nat→AV)(hΘ:Th Θ C r a (a++k) θ)(l:∀H,BE (rC C r a θ H) r 0 bi a)(t:bs y=bi:=by rfl)(n:bi.all Blk.live=true:=by kernel_rfl)(i:(a++k).all (fun p=>p.2.live)=true:=by kernel_rfl)(F:∀H,Aj (rC C r a θ H) ys=Aj r xs:=by intro H;kernel_rfl)(u:∀H,ren (rC C r a θ H) (e y)=ren r x:=by intro H;kernel_rfl)
  (m:((a.map (·.1)).all (Bk os')&&FD (a.map (·.1))&&Nat.beq a.length os)=true:=by kernel_rfl):FG P C.l r f xs (a++k) x:=by
 intro d v D
 have s:∀b∈bi,b.live=true:=fun b E=>Yk.1 n b E
 have o:∀p∈a++k,p.2.live=true:=fun p c=>Yk.1 i p c
 have h:∀p∈a,p∈a++k:=fun p c=>Iq _ c
 simp only[Yb]at m
 have q:∀p∈a++k,(d (r.κ p.1)).g=r.γ p.1+p.2.g∧(p.2.live=true→d (r.κ p.1)=AA r p.1 p.2):=fun p c=>⟨by rw[v p c (o p c)];rfl,v p c⟩
 have:=K.k (C.l+1) d ((a.map (fun p:Ab×Blk=>p.1)).map r.κ) (Ec r a) θ (by rw[YD,YD];exact Ya m.2) (J6 co g _ m.1.1) (Mi (Qx co g) _ m.1.2 m.1.1)
  (MN bi a 0 bi (fun j=>by have:=MA bi 0 j;rwa [YS]at this⊢) (l d) fun p c=>q p (h p c)) (hΘ d q D) y hy
 rw[←F d]
 refine this.mono fun z w ⟨A,B⟩=>⟨A.trans (u d),B.trans ?_⟩
 rw[t]
 exact VZ bi a 0 (l d) s fun p c hl=>(q p (h p c)).2 hl
theorem uR(K:KO P f os ys bi Θ M e bs)(hy:M=some y){fx:List Nat}(co:COx C os' fx)(g:Gd C r)(a m c:List (Ab×Blk))(θ:Nat→AV)(hΘ:Th Θ C r a (a++m) θ)
  (n:∀H,BE (rC C r a θ H) r 0 bi a) (h:∀H,BE (rC C r a θ H) r 0 (bs y) c) (k:(bs y).all Blk.live=true:=by kernel_rfl) (D:∀H,Aj (rC C r a θ H) ys=Aj r xs:=by intro H;kernel_rfl) (s:∀H,ren (rC C r a θ H) (e y)=ren r x:=by intro H;kernel_rfl)
  (i:((a.map (·.1)).all (Bk os')&&FD (a.map (·.1))&&Nat.beq a.length os)=true:=by kernel_rfl) (he:a.map (·.1)=c.map (·.1):=by rfl):Gx P C.l r f xs (a++m) x c []:=by
 have o:∀b∈bs y,b.live=true:=fun b B=>Yk.1 k b B
 have l:∀p∈a,p∈a++m:=fun p q=>Iq _ q
 refine vH rfl rfl fun d t A=>?_
 simp only[Yb]at i
 have:=K.k (C.l+1) d ((a.map (fun p:Ab×Blk=>p.1)).map r.κ) (Ec r a) θ (by rw[YD,YD];exact Ya i.2) (J6 co g _ i.1.1) (Mi (Qx co g) _ i.1.2 i.1.1)
  (MN bi a 0 bi (fun j=>by have:=MA bi 0 j;rwa [YS]at this⊢) (n d) fun p q=>t p (l p q)) (hΘ d t A) y hy
 rw[←D d]
 exact this.mono fun z u ⟨v,w⟩=>⟨v.trans (s d),w.trans (V2 (bs y) a c 0 d (h d) o he)⟩
end
structure CloM (P:Program) (C:Cx) (i:Nat) (xs:List AV) {γ:Type} (M:Option γ) (e:γ→AV):Prop where
 k:∀y,M=some y→BJ P C.l C.no C.H0 (C.θ i) xs (e y)
 x:∀r,Aj r xs=xs
 e:∀r y,ren r (e y)=e y
section
variable {os:Nat} {β γ:Type} [Inhabited γ]
theorem CloM.callF{P:Program}{i:Nat}{xs:List AV}{M:Option γ}{e:γ→AV}(E:Ev os β)(h:CloM P E.C i xs M e){y:γ}(hy:M=some y):Kk P E.E.l E.E.r i xs [] (e y):=
 uY (congrFun E.g.θ i) (by rw[E.hl,E.g.no,E.g.H];exact h.k y hy) (h.x _) (h.e _ _)
@[reducible] def cf(P:Program)(i:Nat)(xs:List AV)(M:Option γ)(e:γ→AV)(k:γ→PT os β):PT os β:=
 ⟨.call (e (M.getD default)) [] (k (M.getD default)).a,fun E=>Kk P E.l E.r i xs [] (e (M.getD default))∧(k (M.getD default)).q E,M.bind fun y=>(k y).m,fun E=>CloM P E.C i xs M e∧∀y,(k y).n E,fun E b y hm f=>by
  obtain⟨x,a,c⟩:=bind_some hm
  have d:M.getD default=x:=by rw[a];rfl
  rw[d]
  exact⟨b.1.callF E a,(k x).ok E (b.2 x) y c f⟩⟩
@[reducible] def yE(b:Bool)(P:Program)(i:Nat)(xs:List AV)(M:Option γ)(e:γ→AV)(k:γ→PT os β):PT os β:=
 ⟨.call (e (M.getD default)) [] (k (M.getD default)).a,fun E=>(b=true→Kk P E.l E.r i xs [] (e (M.getD default)))∧(k (M.getD default)).q E,if(b=true→M.isSome=true)then(k (M.getD default)).m else none,fun E=>CloM P E.C i xs M e∧∀y,(k y).n E,fun E c y hm g=>by
  obtain⟨d,hm⟩:=Bs hm
  refine⟨fun h=>?_,(k _).ok E (c.2 _) y hm g⟩
  obtain⟨x,a⟩:=Y0.1 (d h)
  have f:M.getD default=x:=by rw[a];rfl
  rw[f];exact c.1.callF E a⟩
@[reducible] def cs(P:Program)(f:FuncId)(xs:List AV)(ks:List Ab)(b:List (Ab×Blk))(M:Option γ)(e:γ→AV)(k:γ→PT os β):PT os β:=
 ⟨.call (e (M.getD default)) ks (k (M.getD default)).a,fun E=>FG P E.l E.r f xs b (e (M.getD default))∧(k (M.getD default)).q E,M.bind fun y=>(k y).m,fun E=>(∀y,M=some y→FG P E.C.l E.E.r f xs b (e y))∧∀y,(k y).n E,fun E c y hm h=>by
  obtain⟨x,a,d⟩:=bind_some hm
  have g:M.getD default=x:=by rw[a];rfl
  rw[g]
  exact⟨by rw[E.hl];exact c.1 x a,(k x).ok E (c.2 x) y d h⟩⟩
@[reducible] def DS(b:Bool)(P:Program)(f:FuncId)(xs:List AV)(ks:List Ab)(a:List (Ab×Blk))(M:Option γ)(e:γ→AV)(k:γ→PT os β):PT os β:=
 ⟨.call (e (M.getD default)) ks (k (M.getD default)).a,fun E=>(b=true→FG P E.l E.r f xs a (e (M.getD default)))∧(k (M.getD default)).q E,if(b=true→M.isSome=true)then(k (M.getD default)).m else none,fun E=>(∀y,M=some y→FG P E.C.l E.E.r f xs a (e y))∧∀y,(k y).n E,fun E d y hm i=>by
  obtain⟨g,hm⟩:=Bs hm
  refine⟨fun a=>?_,(k _).ok E (d.2 _) y hm i⟩
  obtain⟨x,c⟩:=Y0.1 (g a)
  have h:M.getD default=x:=by rw[c];rfl
  rw[h,E.hl];exact d.1 x c⟩
@[reducible] def mv{α:Type}[Rw α](d q:Nat)(xs:List α)(k:PT os β)(a:Nat.ble (q+1) os=true:=by kernel_rfl):PT os β:=
 ⟨.mv d q k.a,fun E=>Ew (Ac Rw.e xs)∧(q<os∧E.r.no (E.r.κ (0,q)))∧k.q E,k.m,k.n,fun E c y hm b=>
  ⟨fQ _ _,⟨Yf a,by rw[E.g.no,E.g.κ];exact E.co.W q (Yf a)⟩,k.ok E c y hm b⟩⟩
@[reducible] def mvc{α:Type}[Rw α](d q e i:Nat)(xs:List α)(k:PT os β)(a:Nat.ble (q+1) os=true:=by kernel_rfl):PT os β:=
 ⟨.mvc d q e i k.a,fun E=>Ew (Ac Rw.e xs)∧(q<os∧E.r.no (E.r.κ (0,q)))∧k.q E,k.m,k.n,fun E c y hm b=>
  ⟨fQ _ _,⟨Yf a,by rw[E.g.no,E.g.κ];exact E.co.W q (Yf a)⟩,k.ok E c y hm b⟩⟩
end
section
variable {P:Program} {os os':Nat} {ys:List AV} {bi:List Blk} {Θ:Cl} {γ:Type} {M:Option γ} {e:γ→AV} {bs:γ→List Blk} {C:Cx} {r:Ren} {y:γ}
theorem Gl{f:FuncId}(K:KO P f os ys bi Θ M e bs)(hy:M=some y){fx:List Nat}(co:COx C os' fx)(g:Gd C r)(c i:List (Ab×Blk)){w:List (Ab×Blk)}{v:Hp}(L:∀p∈w,(v (r.κ p.1)).g=r.γ p.1+p.2.g∧(p.2.live=true→v (r.κ p.1)=AA r p.1 p.2))(u:∀p∈c,p∈w)
  {G d:List AV} (θ:Nat→AV) (hΘ:∀l' a,Θ (fun k=>k∈(c.map (·.1)).map r.κ) l' a θ) (o:∀l H,BE (BY l ((c.map (·.1)).map r.κ) (Ec r c) θ H) r 0 bi c) (B:bs y=bi:=by rfl) (t:bi.all Blk.live=true:=by kernel_rfl)
  (O:∀l H,Aj (BY l ((c.map (·.1)).map r.κ) (Ec r c) θ H) ys=G++d:=by intro l H;kernel_rfl) (D:∀l H,ren (BY l ((c.map (·.1)).map r.κ) (Ec r c) θ H) (e y)=e y:=by intro l H;kernel_rfl)
  (F:(((c++i).map (·.1)).all (Bk os')&&FD ((c++i).map (·.1))&&Nat.beq c.length os)=true:=by kernel_rfl):BJ P (C.l+1) (fun k=>k∈(i.map (·.1)).map r.κ) v (.fn (.func f) [] d) G (e y):=by
 have A:∀b∈bi,b.live=true:=fun b w=>Yk.1 t b w
 refine⟨f,[],d,rfl,fun l' a hl N=>?_⟩
 simp only[Yb,Jq,List.all_append]at F
 obtain⟨⟨⟨E,R⟩,S⟩,T⟩:=F
 have m:=Mi (Qx co g) _ S (by rw[List.all_append,E,R];rfl)
 rw[Jq,List.nodup_append]at m
 have x:∀p∈c,a (r.κ p.1)=v (r.κ p.1):=fun p n=>by
  have hm:r.κ p.1∈(c.map (·.1)).map r.κ:=Sw (Sw n)
  exact N _ (Qg (J6 co g _ E) _ hm) fun h=>m.2.2 _ hm _ h rfl
 have q:∀p∈c,(a (r.κ p.1)).g=r.γ p.1+p.2.g∧(p.2.live=true→a (r.κ p.1)=AA r p.1 p.2):=fun p n=>by rw[x p n];exact L p (u p n)
 have s:HY l' ((c.map (·.1)).map r.κ):=by
  have:=J6 co g (c.map (·.1)) E
  generalize (c.map (·.1)).map r.κ=ks at this
  induction ks with
  |nil=>trivial
  |cons k ks Q=>exact⟨ET this.1 hl,Q this.2⟩
 have:=K.k l' a ((c.map (fun p:Ab×Blk=>p.1)).map r.κ) (Ec r c) θ (by rw[YD,YD];exact Ya T) s m.1
  (MN bi c 0 bi (fun j=>by have:=MA bi 0 j;rwa [YS]at this⊢) (o l' a) q) (hΘ l' a) y hy
 rw[F4,←O l' a]
 refine this.mono fun z U ⟨I,J⟩=>⟨I.trans (D l' a),J.trans ?_⟩
 rw[B]
 exact VZ bi c 0 (o l' a) A fun p n hl=>(q p n).2 hl
theorem Hw{f:FuncId}{xs:List AV}(K:KC P f xs M e)(hy:M=some y){l:Nat}{no:Ab→Prop}{H:Hp}:BJ P l no H (.fn (.func f) [] []) xs (e y):=uU fun l' a=>K.k l' a y hy
end
theorem FE{C:Cx}{r:Ren}{os':Nat}{P:Program}{i:Nat}{xs:List AV}{y:AV}{fx:List Nat}(co:COx C os' fx)(g:Gd C r)(m:List (Ab×Blk)){l:Hp}(p:∀k:Ab,k.1≤C.l→¬r.no k→l k=r.H0 k)(h:BJ P C.l C.no C.H0 (C.θ i) xs y)
  (o:((m.map (·.1)).all (Bk os'))=true:=by kernel_rfl):BJ P (C.l+1) (fun k=>k∈(m.map (·.1)).map r.κ) l (r.θ i) xs y:=by
 rw[g.θ]
 refine ya h (Nat.le_succ _) (fun q f d hm=>?_) fun q f d=>?_
 ·obtain⟨k,j,e⟩:=YU.1 hm
  rw[g.κ]at e
  obtain⟨a,b⟩:=k
  rcases Fa (Yk.1 o _ j)with c|⟨c,n⟩
  ·simp only at c;subst c;rw[co.ok.own]at e;rw[←e]at f;simp only at f;omega
  ·simp only at c n;subst c;rw[←e]at d;exact d (co.W b n)
 ·rw[←g.H];exact p q f (by rw[g.no];exact d)
theorem EZ{r b:Ren}{k k':Ab}{g a:Nat}{e:EK}{sz:Nat}{cs:List AV}(h:Gv cs)(c:r.γ k+g=b.γ k'+a):AA r k ⟨g,true,e,sz,cs⟩=AA b k' ⟨a,true,e,sz,cs⟩:=by
 simp only[AA,Hr h,c]
section
variable {P:Program} {T:Nat→Option TI} {n:Nat} {C:Cx} {τ:St} {Q:Exit→St→Prop} {os k:Nat} {c:Code} {β:Type} {L:β→Prop} {y:β}
theorem qv{fx:List Nat}(co:COx C os fx)(o:AX P T)(m:Nat)(v:PT os β)(lf:Lf)(s:v.m=some y)(j:HL L y)(p:∀r (g:Gd C r),v.n ⟨⟨C.l,r,fun _ τ'=>LO P n C c (k+m) τ' Q,fun _ _=>False⟩,L,C,_,co,g,rfl⟩)
  (q:∀l r Q b,AW r os v.a τ (fun τ a=>EI P T l n r ((BC c).toList.map (·.dst)) (Gs m (FH k (BC c).toList)) [] a (fun τ' env d=>AW r os d (C5 env τ') (fun τ _=>Dp fx lf τ (Q .normal))) τ)=v.q ⟨l,r,Q,b⟩:=by intro l r Q P;kernel_rfl):LO P n C c k τ Q:=
 yD co.ok o co.O co.F m v.a lf (fun r Φ=>v.q ⟨C.l,r,fun _=>Φ,fun _ _=>False⟩) (fun r Φ=>q _ r (fun _=>Φ) _) fun r e f h i=>v.ok _ (p r ⟨e,f,h,i⟩) y s j
theorem pn{fx:List Nat}(co:COx C os fx)(m:AX P T)(v:PT os β)(lf:Lf)(q:v.m=some y)(j:HL L y)(o:∀r (g:Gd C r),v.n ⟨⟨C.l,r,Q,fun _ _=>False⟩,L,C,_,co,g,rfl⟩)
  (p:∀l r Q b,AW r os v.a τ (fun τ a=>EI P T l n r ((BC c).toList.map (·.dst)) (FH k (BC c).toList) [] a (fun τ' env d=>AW r os d (C5 env τ') (fun τ _=>Dp fx lf τ (Q .normal))) τ)=v.q ⟨l,r,Q,b⟩:=by intro l r Q P;kernel_rfl):LO P n C c k τ Q:=
 ny co.ok m co.O co.F v.a lf (fun r Q=>v.q ⟨C.l,r,Q,fun _ _=>False⟩) (fun r Q=>p _ r Q _) fun r e f h i=>v.ok _ (o r ⟨e,f,h,i⟩) y q j
theorem n2{γ:Type}{M:Option γ}{kk:γ→Option β}{ss:List (Nat×AV)}{hs:List (Ab×Blk)}{fx:List Nat}(co:COx C os fx)(hm:M.bind kk=some y)(f:FuncId)(xs:List AV)(ks:List Ab)(b:List (Ab×Blk))(e:γ→AV)(Ao:γ→List (Ab×Blk))(fl:List Ab)
  (l:∀z,Ei C (Ao z)) (d:H1 (As hs) fl) (a:∀z,M=some z→∀r,Gd C r→Gx P C.l r f xs b (e z) (Ao z) [])
  (h:∀z,kk z=some y→LO P n C c (k+1) (Aa (FJ (EB c k) (e z) (Do [] ss)) (Ao z++Cv ((Ao z).map (·.1)) [] fl hs)) Q)
  (j:FC c k=some (EB c k,callF c k,FF c k):=by kernel_rfl) (v:ev (AJ ss) (callF c k)=.fn (.func f) [] []:=by kernel_rfl) (m:[]++(FF c k).map (ev (AJ ss))++[]=xs:=by kernel_rfl) (g:(ks.map fun k=>(k,As hs k))=b:=by kernel_rfl)
  (i:∀z,(C3 os (Ao z)&&K1 [] (Ao z)&&JW [] fx&&Gq hs&&Kn n (EB c k)&&ks.all (Bk os))=true:=by intro z;kernel_rfl):LO P n C c k (Aa ss hs) Q:=by
 obtain⟨z,o,p⟩:=bind_some hm
 exact g0 co.ok co.O co.F f [] [] xs j v m ks b g (e z) (Ao z) [] fl (i z) (l z) d (fun r q s t u=>a z o r ⟨q,s,t,u⟩) (h z p)
theorem s6 {f os os':Nat} {ys xs:List AV} {bi:List Blk} {γ:Type} {M:Option γ} {e:γ→AV} {bs:γ→List Blk} {z:γ} {x:AV} {r:Ren} (K:KO P f os ys bi (fun _ _ _ _=>True) M e bs) (hy:M=some z) {fx:List Nat} (co:COx C os' fx) (g:Gd C r) (a d:List (Ab×Blk)) (h:∀H,BE (rC C r a (AJ []) H) r 0 bi a:=by
   intro H
   repeat(first|exact trivial|refine⟨fun _=>⟨rfl,EZ (D2 _ _) (by kernel_rfl)⟩,by kernel_rfl,?_⟩|refine⟨fun _=>⟨rfl,EZ Hz (by kernel_rfl)⟩,by kernel_rfl,?_⟩|refine⟨fun _=>⟨rfl,by kernel_rfl⟩,by kernel_rfl,?_⟩))
  (i:bs z=bi:=by rfl) (c:bi.all Blk.live=true:=by kernel_rfl) (b:(a++d).all (fun p=>p.2.live)=true:=by kernel_rfl) (l:∀H,Aj (rC C r a (AJ []) H) ys=Aj r xs:=by intro H;kernel_rfl) (j:∀H,ren (rC C r a (AJ []) H) (e z)=ren r x:=by intro H;kernel_rfl)
  (k:((a.map (·.1)).all (Bk os')&&FD (a.map (·.1))&&Nat.beq a.length os)=true:=by kernel_rfl):FG P C.l r f xs (a++d) x:=
 CQ K hy co g a d (AJ []) (fun _ _ _=>trivial) h i c b l j k
theorem c6{γ:Type}{M:Option γ}{kk:γ→Option β}{ss:List (Nat×AV)}{hs:List (Ab×Blk)}{f:FuncId}{os':Nat}{ys:List AV}{bi:List Blk}{Θ:Cl}{e0:γ→AV}{bs:γ→List Blk}{fx:List Nat}(co:COx C os fx)(hm:M.bind kk=some y)(K:KO P f os' ys bi Θ M e0 bs)
  (a b:List (Ab×Blk)) (e:γ→AV) (Ao:γ→List (Ab×Blk)) (fl:List Ab)
  (h:∀z,kk z=some y→LO P n C c (k+1) (Aa (FJ (EB c k) (e z) (Do [] ss)) (Ao z++Cv ((Ao z).map (·.1)) [] fl hs)) Q)
  (θ:Ren→Nat→AV:=fun _=>AJ []) (hΘ:∀r,Gd C r→Th Θ C r a (a++b) (θ r):=by intro r g;exact fun _ _ _=>trivial) (xs:List AV:=[]++(FF c k).map (ev (AJ ss))++[])
  (q:∀z,Ei C (Ao z):=by intro z;repeat(first|exact trivial|refine⟨COx.W ‹_› _ (by decide),?_⟩))
  (j:H1 (As hs) fl:=by repeat(first|exact trivial|refine⟨D2 _ _,?_⟩))
  (i:∀r H,BE (rC C r a (θ r) H) r 0 bi a:=by
   intro r H
   repeat(first|exact trivial|refine⟨fun _=>⟨rfl,EZ (D2 _ _) (by kernel_rfl)⟩,by kernel_rfl,?_⟩|refine⟨fun _=>⟨rfl,EZ Hz (by kernel_rfl)⟩,by kernel_rfl,?_⟩|refine⟨fun _=>⟨rfl,by kernel_rfl⟩,by kernel_rfl,?_⟩|refine⟨(fun h=>nomatch h),by kernel_rfl,?_⟩))
  (d:∀z r H,BE (rC C r a (θ r) H) r 0 (bs z) (Ao z):=by
   intro z r H
   repeat(first|exact trivial|refine⟨fun _=>⟨rfl,EZ (D2 _ _) (by kernel_rfl)⟩,by kernel_rfl,?_⟩|refine⟨fun _=>⟨rfl,EZ Hz (by kernel_rfl)⟩,by kernel_rfl,?_⟩|refine⟨fun _=>⟨rfl,by kernel_rfl⟩,by kernel_rfl,?_⟩))
  (w:∀r H,Aj (rC C r a (θ r) H) ys=Aj r xs:=by intro r H;kernel_rfl) (s:[]++(FF c k).map (ev (AJ ss))++[]=xs:=by kernel_rfl) (t:∀z r H,ren (rC C r a (θ r) H) (e0 z)=ren r (e z):=by intro z r H;kernel_rfl)
  (p:FC c k=some (EB c k,callF c k,FF c k):=by kernel_rfl) (u:ev (AJ ss) (callF c k)=.fn (.func f) [] []:=by kernel_rfl)
  (l:(((a++b).map (·.1)).map fun k=>(k,As hs k))=a++b:=by kernel_rfl) (m:∀z,(bs z).all Blk.live=true:=by intro z;kernel_rfl) (he:∀z,a.map (·.1)=(Ao z).map (·.1):=by intro z;rfl)
  (v:((a.map (·.1)).all (Bk os)&&FD (a.map (·.1))&&Nat.beq a.length os')=true:=by kernel_rfl)
  (o:∀z,(C3 os (Ao z)&&K1 [] (Ao z)&&JW [] fx&&Gq hs&&Kn n (EB c k)&&((a++b).map (·.1)).all (Bk os))=true:=by intro z;kernel_rfl):LO P n C c k (Aa ss hs) Q:=
 n2 co hm f xs _ (a++b) e Ao fl q j (fun z x r g=>uR K x co g a b (Ao z) (θ r) (hΘ r g) (fun H=>i r H) (fun H=>d z r H) (m z) (fun H=>w r H) (fun H=>t z r H) v (he z)) h p u s l o
theorem pl{fx:List Nat}(co:COx C os fx)(v:PT os β)(lf:Lf)(k:v.m=some y)(h:HL L y)(i:∀r (g:Gd C r),v.n ⟨⟨C.l,r,fun _ τ'=>LW P n C c τ' Q,fun _ _=>False⟩,L,C,_,co,g,rfl⟩)
  (j:∀l r Q a,AW r os v.a τ (fun τ _=>Dp fx lf τ (Q .normal))=v.q ⟨l,r,Q,a⟩:=by intro l r Q P;kernel_rfl):LW P n C c τ Q:=
 x7 co.ok co.O co.F v.a lf (fun r Φ=>v.q ⟨C.l,r,fun _=>Φ,fun _ _=>False⟩) (fun r Φ=>j _ r (fun _=>Φ) _) fun r b d e f=>v.ok _ (i r ⟨b,d,e,f⟩) y k h
theorem rg{c:Code}(h:LO P n C c 0 τ Q)(hs:lX c=true:=by kernel_rfl):LW P n C c τ Q:=rZ hs h
end
end Go.Eng
