import Derived.Test.YtifefgdogdecnaaGreatDoorEb08
import Derived.Test.YtifefgdogdecnaaGreatDoorEb00
namespace Go.Eng
set_option linter.all false
open Go Go.RowKit
abbrev vL{α:Type}(e:α→List D)(xs:List α):AV:=.d (.list (xs.map e))
abbrev vS(s:ByteArray):AV:=.d (.str s)
abbrev vI(x:Int):AV:=.d (.int .i64 x)
abbrev vN(x:Nat):AV:=.d (.int .i64 (x:Int))
abbrev vB(x:Bool):AV:=.d (.bool x)
abbrev nl:Lf:=⟨[],[],[],[]⟩
abbrev pp(n:Nat):Nat×AV:=(n,.ptr (1,n) 0 0)
abbrev kk(d:Nat)(e:EK)(sz:Nat)(c:List AV):Aa×Blk:=((1,d),⟨0,true,e,sz,c⟩)
abbrev nG{α β:Type}:α→List β:=fun _=>[]
theorem nH{α:Type}{p:α→Prop}:∀x,p x→p x:=fun _ h=>h
abbrev cD(l:List D):List AV:=l.map .d
abbrev Am(ls:List Nat):Lf:=⟨ls,[],[],[]⟩
abbrev Ai(ls:List Nat)(ks:List (Aa×Bool)):Lf:=⟨ls,ks,[],[]⟩
class Rw (α:Type) where
 e:α→List D
 f:α→List D
 z:α
 s:Nat
 len:∀x,(e x).length=s
 ef:∀x,e x=f x
 s0:s≠0
instance:Rw Int:=⟨A8,A8,0,1,fun _=>rfl,fun _=>rfl,by decide⟩
instance:Rw Raw:=⟨Aj,Aj,lu,4,fun _=>rfl,fun _=>rfl,by decide⟩
instance:Rw Val:=⟨Af,Ac,FZ,7,fun _=>by rw[Cz];rfl,Cz,by decide⟩
instance:Rw Pr:=⟨Ax,Dq,mL,14,fun _=>by rw[Hx];rfl,Hx,by decide⟩
instance:Rw Slt:=⟨Ag,Bo,lH,8,fun _=>by rw[Ht];rfl,Ht,by decide⟩
instance:Rw Fld:=⟨Aw,Aw,kY,16,fun _=>rfl,fun _=>rfl,by decide⟩
instance:Rw Msg:=⟨Ao,Ao,lV,5,fun _=>rfl,fun _=>rfl,by decide⟩
instance:Rw Enm:=⟨AD,AD,kT,5,fun _=>rfl,fun _=>rfl,by decide⟩
instance:Rw P2:=⟨CG,CG,mH,2,fun _=>rfl,fun _=>rfl,by decide⟩
instance:Rw Stp:=⟨Ar,Ar,lj,10,fun _=>rfl,fun _=>rfl,by decide⟩
instance:Rw Edt:=⟨Av,Av,kG,9,fun _=>rfl,fun _=>rfl,by decide⟩
instance (α:Type) [Rw α]:Rw (List α):=⟨fun x=>[.list (x.map Rw.e)],fun x=>[.list (x.map Rw.e)],[],1,fun _=>rfl,fun _=>rfl,by decide⟩
inductive Lv (σ ξ ρ:Type) where
 |nx (v:σ)
 |ex (b:ξ)
 |rt (y:ρ)
structure En where
 l:Nat
 r:Ren
 Q:Exit→St→Prop
 P:AV→List Blk→Prop
structure Gd (C:Cx) (r:Ren):Prop where
 θ:r.θ=C.θ
 H:r.H0=C.H0
 κ:r.κ=C.κ
 no:r.no=C.no
structure COx (C:Cx) (os:Nat) (fx:List Nat):Prop where
 ok:CxOk C
 O:C.outs=os
 F:C.fx=fx
 W:∀q,q<os→C.no (C.κ (0,q))
abbrev CO(C:Cx)(os:Nat):Prop:=COx C os (F3 os)
def HL{β:Type}(L:β→Prop)(y:β):Prop:=L y
structure Ev (os:Nat) (β:Type) where
 E:En
 L:β→Prop
 C:Cx
 fx:List Nat
 co:COx C os fx
 g:Gd C E.r
 hl:E.l=C.l
structure PT (os:Nat) (β:Type) where
 a:AT
 q:En→Prop
 m:Option β
 n:Ev os β→Prop
 ok:∀E:Ev os β,n E→∀y,m=some y→HL E.L y→q E.E
section
variable {os:Nat} {β:Type}
structure Sp where
 w:AT→AT
 p:En→Prop
 c:Prop
 d:Decidable c
 ok:c→∀E,p E
structure Sz where
 w:AT→AT
 p:En→Prop
 ok:∀E,p E
theorem Bt{c:Prop}[d:Decidable c]{m:Option β}{y:β}(h:(if c then m else none)=some y):c∧m=some y:=by
 grind
theorem bind_some{γ:Type}{m:Option γ}{k:γ→Option β}{y:β}(h:m.bind k=some y):∃x,m=some x∧k x=some y:=by
 cases m with
 |none=>cases h
 |some x=>exact⟨x,rfl,h⟩
@[reducible] def vs(s:Sp)(k:PT os β):PT os β:=⟨s.w k.a,fun E=>s.p E∧k.q E,@ite _ s.c s.d k.m none,k.n,fun E d y hm c=>by
 obtain⟨a,b⟩:=@Bt _ _ s.d _ _ hm
 exact⟨s.ok a E.E,k.ok E d y b c⟩⟩
@[reducible] def vg(b:Bool)(s:Sp)(k:PT os β):PT os β:=⟨s.w k.a,fun E=>(b=true→s.p E)∧k.q E,@ite _ (b=true→s.c) (@instDecidableForall _ _ _ s.d) k.m none,k.n,fun E f y hm d=>by
 obtain⟨a,c⟩:=@Bt _ _ (@instDecidableForall _ _ _ s.d) _ _ hm
 exact⟨fun e=>s.ok (a e) E.E,k.ok E f y c d⟩⟩
@[reducible] def vz(s:Sz)(k:PT os β):PT os β:=⟨s.w k.a,fun E=>s.p E∧k.q E,k.m,k.n,fun E b y hm a=>⟨s.ok E.E,k.ok E b y hm a⟩⟩
@[reducible] def vy(b:Bool)(s:Sz)(k:PT os β):PT os β:=⟨s.w k.a,fun E=>(b=true→s.p E)∧k.q E,k.m,k.n,fun E c y hm a=>⟨fun _=>s.ok E.E,k.ok E c y hm a⟩⟩
@[reducible] def v2(s:Sp)(b c:En→Prop)(h:s.c→∀E,b E∧c E)(k:PT os β):PT os β:=⟨s.w k.a,fun E=>b E∧c E∧k.q E,@ite _ s.c s.d k.m none,k.n,fun E f y hm e=>by
 obtain⟨a,d⟩:=@Bt _ _ s.d _ _ hm
 exact⟨(h a E.E).1,(h a E.E).2,k.ok E f y d e⟩⟩
@[reducible] def vw(w:AT→AT)(k:PT os β):PT os β:=⟨w k.a,k.q,k.m,k.n,k.ok⟩
@[reducible] def wg(k:PT os β):PT os β:=⟨.go k.a,k.q,k.m,k.n,k.ok⟩
@[reducible] def br(b:Bool)(t f:PT os β):PT os β:=⟨.br t.a f.a,fun E=>(b=true→t.q E)∧(b=false→f.q E),if b=true then t.m else f.m,fun E=>t.n E∧f.n E,fun E c y hm a=>
 ⟨fun e=>t.ok E c.1 y (by rw[Yj e]at hm;exact hm) a,fun e=>f.ok E c.2 y (by rw[Yq (by rw[e];decide)]at hm;exact hm) a⟩⟩
@[reducible] def bT(b:Bool)(t:PT os β):PT os β:=⟨.one true t.a,fun E=>(b=true→t.q E)∧(b=false→False),if b=true then t.m else none,t.n,fun E c y hm a=>by
 obtain⟨h,hm⟩:=Bt hm
 exact⟨fun _=>t.ok E c y hm a,fun e=>absurd (h.symm.trans e) (by decide)⟩⟩
@[reducible] def bF(b:Bool)(f:PT os β):PT os β:=⟨.one false f.a,fun E=>(b=true→False)∧(b=false→f.q E),if b=false then f.m else none,f.n,fun E c y hm a=>by
 obtain⟨h,hm⟩:=Bt hm
 exact⟨fun e=>absurd (e.symm.trans h) (by decide),fun _=>f.ok E c y hm a⟩⟩
@[reducible] def al{α:Type}(e:α→List D)(xs:List α)(neg:Bool)(k:Bool→PT os β):PT os β:=⟨(k neg).a,fun E=>∀b:Bool,(xs.map e≠[]→b=neg)→(k b).q E,(k neg).m,
 fun E=>(∀b,(k b).n E)∧∀b,xs=[]→(k b).m=(k neg).m,fun E a y hm c b f=>by
  by_cases h:xs=[]
  ·exact(k b).ok E (a.1 b) y ((a.2 b h).trans hm) c
  ·have:b=neg:=f (by intro d;exact h (Nk.1 d))
   subst this
   exact(k b).ok E (a.1 b) y hm c⟩
@[reducible] def lf(p:En→Prop)(y:β):PT os β:=⟨.nil,p,some y,fun E=>HL E.L y→p E.E,fun E b z hm a=>b (by cases hm;exact a)⟩
@[reducible] def lc(s:St)(m:Option β):PT os β:=⟨.nil,fun E=>E.Q .normal s,m,fun E=>∀y,m=some y→HL E.L y→E.E.Q .normal s,fun E b y hm a=>b y hm a⟩
@[reducible] def mz(c:Prop)[Decidable c](p:En→Prop)(y:β):PT os β:=⟨.nil,p,if c then some y else none,fun E=>c→HL E.L y→p E.E,fun E d z hm b=>by
 obtain⟨a,hm⟩:=Bt hm
 cases hm
 exact d a b⟩
@[reducible] def lr(er:β→AV)(bs:β→List Blk)(y:β):PT os β:=lf (fun E=>E.P (er y) (bs y)) y
section
variable {σ ξ ρ:Type}
@[reducible] def AH(er:ρ→AV)(bs:ρ→List Blk)(y:ρ):PT os (Lv σ ξ ρ):=lf (fun E=>E.P (er y) (bs y)) (.rt y)
@[reducible] def ln(S:σ→St)(v:σ):PT os (Lv σ ξ ρ):=lf (fun E=>E.Q .normal (S v)) (.nx v)
@[reducible] def Ap(X:ξ→Nat×St)(b:ξ):PT os (Lv σ ξ ρ):=lf (fun E=>E.Q (.exit (X b).1) (X b).2) (.ex b)
end
section
variable {α:Type} [Rw α]
@[reducible] def ix(xs:List α)(i:Nat)(k:α→PT os β):PT os β:=
 ⟨.ds (Rw.f (xs.getD i Rw.z)) (k (xs.getD i Rw.z)).a,fun E=>FN (xs.map Rw.e) ((i:Nat):Int) (Rw.f (xs.getD i Rw.z))∧(k (xs.getD i Rw.z)).q E,xs[i]?.bind fun x=>(k x).m,fun E=>∀x,(k x).n E,fun E d y hm c=>by
  obtain⟨x,a,b⟩:=bind_some hm
  have e:xs.getD i Rw.z=x:=by rw[Iy,a];rfl
  rw[e]
  exact⟨Ub a Rw.ef,(k x).ok E (d x) y b c⟩⟩
@[reducible] def DP(xs:List α)(i:Int)(k:α→PT os β):PT os β:=
 ⟨.ds (Rw.f (xs.getD i.toNat Rw.z)) (k (xs.getD i.toNat Rw.z)).a,fun E=>FN (xs.map Rw.e) i (Rw.f (xs.getD i.toNat Rw.z))∧(k (xs.getD i.toNat Rw.z)).q E,if 0≤i then xs[i.toNat]?.bind fun x=>(k x).m else none,fun E=>∀x,(k x).n E,fun E g y hm d=>by
  obtain⟨b,hm⟩:=Bt hm
  obtain⟨x,a,c⟩:=bind_some hm
  have e:xs.getD i.toNat Rw.z=x:=by rw[Iy,a];rfl
  have f:=(Yk.1 a).1
  exact⟨Tt b (by omega) Rw.ef,by rw[e];exact(k x).ok E (g x) y c d⟩⟩
@[reducible] def Dr(b:Bool)(xs:List α)(i:Int)(k:α→PT os β):PT os β:=
 ⟨.ds (Rw.f (xs.getD i.toNat Rw.z)) (k (xs.getD i.toNat Rw.z)).a,fun E=>(b=true→FN (xs.map Rw.e) i (Rw.f (xs.getD i.toNat Rw.z)))∧(k (xs.getD i.toNat Rw.z)).q E,if(b=true→0≤i∧i<xs.length)then(k (xs.getD i.toNat Rw.z)).m else none,fun E=>∀x,(k x).n E,fun E d y hm c=>by
  obtain⟨a,hm⟩:=Bt hm
  exact⟨fun e=>Tt (a e).1 (a e).2 Rw.ef,(k _).ok E (d _) y hm c⟩⟩
@[reducible] def ca(xs:List α)(j:Nat)(k:α→PT os β):PT os β:=
 ⟨.cs ((Rw.f (xs.getD j Rw.z)).map .d) (k (xs.getD j Rw.z)).a,fun E=>D0 (Ad Rw.e xs) (j*Rw.s α) ((Rw.f (xs.getD j Rw.z)).map .d)∧(k (xs.getD j Rw.z)).q E,xs[j]?.bind fun x=>(k x).m,fun E=>∀x,(k x).n E,fun E d y hm c=>by
  obtain⟨x,a,b⟩:=bind_some hm
  have e:xs.getD j Rw.z=x:=by rw[Iy,a];rfl
  rw[e]
  exact⟨bZ a Rw.len Rw.ef,(k x).ok E (d x) y b c⟩⟩
@[reducible] def st(xs:List α)(j:Nat)(y:α):Sp:=⟨.cs (Ad Rw.e (xs.set j y)),fun _=>G4 (Ad Rw.e xs) (j*Rw.s α) ((Rw.f y).map .d) (Ad Rw.e (xs.set j y)),j<xs.length,inferInstance,fun h _=>ey h Rw.len Rw.ef⟩
@[reducible] def Ah(xs:List α):Sz:=⟨.num ((xs.length:Nat):Int),fun _=>A0 ((xs.map (Rw.e (α:=α))).length:Nat) ((xs.length:Nat):Int),fun _=>ii _ _⟩
@[reducible] def fl(xs:List α):Sz:=⟨id,fun _=>EN (Ad Rw.e xs),fun _=>CN _ _⟩
@[reducible] def fz(xs:List α):Sz:=⟨id,fun _=>G3 (Ad Rw.e xs) 0 xs.length (Rw.s α) (xs.map Rw.e),fun _=>TK _ Rw.s0 Rw.len⟩
@[reducible] def fr(xs:List α):Sz:=⟨.av (.d (.list (xs.map Rw.e))),fun _=>G3 (Ad Rw.e xs) 0 xs.length (Rw.s α) (xs.map Rw.e),fun _=>TK _ Rw.s0 Rw.len⟩
@[reducible] def ap(xs:List α)(y:α)(k:PT os β):PT os β:=⟨.nat 1 (.cs (Ad Rw.e [y]) (.cs (Ad Rw.e (xs++[y])) (.nat (xs++[y]).length k.a))),
 fun E=>Ea (Rw.s α) [] (.d (.list [Rw.f y])) 1 (Ad Rw.e [y])∧L4 (Ad Rw.e xs) 0 xs.length 1 (Rw.s α) 256 (Ad Rw.e [y]) (Ad Rw.e (xs++[y])) (xs++[y]).length∧k.q E,
 if xs.length<549755813887 then k.m else none,k.n,fun E b z hm a=>by
  obtain⟨c,hm⟩:=Bt hm
  exact⟨SL _ Rw.len Rw.ef,dZ xs [y] Rw.len rfl rfl (by rw[List.length_singleton];omega),k.ok E b z hm a⟩⟩
@[reducible] def a1(y:α)(k:PT os β):PT os β:=⟨.nat 1 (.cs (Ad Rw.e [y]) k.a),fun E=>Ea (Rw.s α) [] (.d (.list [Rw.f y])) 1 (Ad Rw.e [y])∧Ju 1 256∧k.q E,k.m,k.n,fun E b z hm a=>⟨SL _ Rw.len Rw.ef,by unfold Ju;decide,k.ok E b z hm a⟩⟩
@[reducible] def a0(ys:List α)(k:PT os β):PT os β:=⟨.nat ys.length (.cs (Ad Rw.e ys) k.a),fun E=>Ea (Rw.s α) [] (.d (.list (ys.map Rw.e))) ys.length (Ad Rw.e ys)∧Ju ys.length 256∧k.q E,if ys.length<549755813888 then k.m else none,k.n,fun E b z hm a=>by
  obtain⟨c,hm⟩:=Bt hm
  exact⟨dJ _ _ Rw.len,by unfold Ju;omega,k.ok E b z hm a⟩⟩
@[reducible] def ms(m:Nat)(z:α)(a:List AV)(d:(Rw.e z).map .d=a)(k:PT os β):PT os β:=⟨.nat (List.replicate m z).length (.cs (Ad Rw.e (List.replicate m z)) k.a),
 fun E=>Q5 ((m:Nat):Int) ((m:Nat):Int) 256 (List.replicate m z).length a (Ad Rw.e (List.replicate m z))∧k.q E,if m≤549755813888 then k.m else none,k.n,fun E c y hm b=>by
  obtain⟨e,hm⟩:=Bt hm
  exact⟨⟨by rw[J4],Int.le_refl _,by omega,by rw[J4];exact gm d m⟩,k.ok E c y hm b⟩⟩
@[reducible] def rn(j d n:Nat)(xs:List α)(k:PT os β):PT os β:=⟨.reb j d xs.length (Ad Rw.e xs) k.a,
 fun E=>(n=xs.length∧0*Rw.s α≤(Ad (Rw.e (α:=α)) xs).length∧(Ad Rw.e xs).drop (0*Rw.s α)=Ad Rw.e xs)∧k.q E,if n=xs.length then k.m else none,k.n,fun E c y hm b=>by
  obtain⟨a,hm⟩:=Bt hm
  exact⟨⟨a,by rw[Hc];exact YT _,by rw[Hc];rfl⟩,k.ok E c y hm b⟩⟩
end
@[reducible] def El(q:Nat)(vs:List AV)(low:∀r:Ren,Ef r (0,q) vs)(k:PT os β)(c:Nat.ble (q+1) os=true:=by kernel_rfl):PT os β:=
 ⟨k.a,fun E=>G5 E.r (0,q)∧Ef E.r (0,q) vs∧k.q E,k.m,k.n,fun E b y hm a=>⟨⟨rfl,by rw[E.g.no,E.g.κ];exact E.co.W q (Yd c)⟩,low _,k.ok E b y hm a⟩⟩
inductive Bd
 |no
 |nt (n:Nat)
 |it (x:Int)
def Bd.ov:Bd→Option AV
 |.no=>none
 |.nt n=>some (.d (.int .i64 (n:Int)))
 |.it x=>some (.d (.int .i64 x))
def Bd.vl(d:Nat):Bd→Nat
 |.no=>d
 |.nt n=>n
 |.it x=>x.toNat
def Bd.c:Bd→Prop
 |.it x=>0≤x
 |_=>True
instance (b:Bd):Decidable b.c:=by cases b<;>unfold Bd.c<;>infer_instance
theorem Bd.ok{d:Nat}{b:Bd}(h:b.c):Ck d b.ov (b.vl d):=by
 cases b with
 |no=>rfl
 |nt n=>rfl
 |it x=>exact(Int.toNat_of_nonneg h).symm
@[reducible] def ss(s:ByteArray)(lo hi:Bd)(k:ByteArray→PT os β):PT os β:=
 ⟨.nat (lo.vl 0) (.nat (hi.vl s.size) (k (s.extract (lo.vl 0) (hi.vl s.size))).a),fun E=>Ck 0 lo.ov (lo.vl 0)∧Ck s.size hi.ov (hi.vl s.size)∧Du (lo.vl 0) (hi.vl s.size) s.size∧(k (s.extract (lo.vl 0) (hi.vl s.size))).q E,
 if lo.c∧hi.c∧lo.vl 0≤hi.vl s.size∧hi.vl s.size≤s.size then(k (s.extract (lo.vl 0) (hi.vl s.size))).m else none,fun E=>∀x,(k x).n E,fun E c y hm b=>by
  obtain⟨a,hm⟩:=Bt hm
  exact⟨Bd.ok a.1,Bd.ok a.2.1,a.2.2,(k _).ok E (c _) y hm b⟩⟩
section
variable {α:Type} [Rw α]
@[reducible] def sL(xs:List α)(lo hi:Bd)(k:List α→PT os β):PT os β:=
 ⟨.nat (lo.vl 0) (.nat (hi.vl xs.length) (.av (.d (.list (((xs.drop (lo.vl 0)).take (hi.vl xs.length-lo.vl 0)).map Rw.e))) (k ((xs.drop (lo.vl 0)).take (hi.vl xs.length-lo.vl 0))).a)),
 fun E=>Ck 0 lo.ov (lo.vl 0)∧Ck (xs.map (Rw.e (α:=α))).length hi.ov (hi.vl xs.length)∧Du (lo.vl 0) (hi.vl xs.length) (xs.map (Rw.e (α:=α))).length∧JZ (xs.map Rw.e) (Rw.s α) (lo.vl 0) (hi.vl xs.length) (((xs.drop (lo.vl 0)).take (hi.vl xs.length-lo.vl 0)).map Rw.e)∧(k ((xs.drop (lo.vl 0)).take (hi.vl xs.length-lo.vl 0))).q E,
 if lo.c∧hi.c∧lo.vl 0≤hi.vl xs.length∧hi.vl xs.length≤xs.length then(k ((xs.drop (lo.vl 0)).take (hi.vl xs.length-lo.vl 0))).m else none,fun E=>∀x,(k x).n E,fun E c y hm b=>by
  obtain⟨a,hm⟩:=Bt hm
  exact⟨Bd.ok a.1,by rw[YF];exact Bd.ok a.2.1,fH a.2.2,fY Rw.len,(k _).ok E (c _) y hm b⟩⟩
end
@[reducible] def sR(len off:Nat)(lo hi:Bd)(k:PT os β):PT os β:=
 ⟨.nat (lo.vl 0) (.nat (hi.vl len) (.nat (off+lo.vl 0) (.nat (hi.vl len-lo.vl 0) k.a))),fun E=>Ck 0 lo.ov (lo.vl 0)∧Ck len hi.ov (hi.vl len)∧Du (lo.vl 0) (hi.vl len) len∧M3 off (lo.vl 0) (hi.vl len) (off+lo.vl 0) (hi.vl len-lo.vl 0)∧k.q E,
 if lo.c∧hi.c∧lo.vl 0≤hi.vl len∧hi.vl len≤len then k.m else none,k.n,fun E c y hm b=>by
  obtain⟨a,hm⟩:=Bt hm
  exact⟨Bd.ok a.1,Bd.ok a.2.1,a.2.2,⟨rfl,rfl⟩,k.ok E c y hm b⟩⟩
@[reducible] def EZ(n:Nat):Sz:=⟨.num ((n:Nat):Int),fun _=>A0 ((n:Nat):Int) ((n:Nat):Int),fun _=>rfl⟩
@[reducible] def wa(a b:Nat):Sp:=⟨.num ((a+b:Nat):Int),fun _=>Br .i64 (((a:Nat):Int)+((b:Nat):Int)) ((a+b:Nat):Int),a+b<9223372036854775808,inferInstance,fun h _=>Pf (by omega) (by omega) (by omega)⟩
@[reducible] def wm(a b:Nat):Sp:=⟨.num ((a*b:Nat):Int),fun _=>Br .i64 (((a:Nat):Int)*((b:Nat):Int)) ((a*b:Nat):Int),a*b<9223372036854775808,inferInstance,fun h _=>Pf (by simp) (by omega) (by omega)⟩
@[reducible] def wi(x:Int):Sp:=⟨.num x,fun _=>Br .i64 x x,-9223372036854775808≤x∧x<9223372036854775808,inferInstance,fun h _=>Pf rfl h.1 h.2⟩
@[reducible] def wk(i:IntKind)(x:Int):Sz:=⟨.num (i.wrap x),fun _=>Br i x (i.wrap x),fun _=>rfl⟩
@[reducible] def ir(i len sz:Nat):Sp:=⟨.nat (i*sz),fun _=>HY ((i:Nat):Int) len 0 sz (i*sz),i<len,inferInstance,fun h _=>jV h⟩
@[reducible] def CZ(i:Int)(len sz:Nat):Sp:=⟨.nat (i.toNat*sz),fun _=>HY i len 0 sz (i.toNat*sz),0≤i∧i<len,inferInstance,fun h _=>bX h.1 h.2⟩
@[reducible] def ad(a b:ByteArray)(k:ByteArray→PT os β):PT os β:=⟨(k (a++b)).a,fun E=>X8 a b∧(k (a++b)).q E,if a.size+b.size≤9223372036854775807 then(k (a++b)).m else none,fun E=>∀x,(k x).n E,fun E e y hm d=>by
  obtain⟨c,hm⟩:=Bt hm
  exact⟨c,(k _).ok E (e _) y hm d⟩⟩
@[reducible] def Qm(k:IntKind)(x y:Int):Sz:=⟨.num (BR k x y),fun _=>A0 (BR k x y) (BR k x y),fun _=>rfl⟩
@[reducible] def mG(k:IntKind)(x y:Int):Sz:=⟨.num (DR k x y),fun _=>A0 (DR k x y) (DR k x y),fun _=>rfl⟩
@[reducible] def mF(k:IntKind)(x:Int):Sz:=⟨.num (FS k x),fun _=>A0 (FS k x) (FS k x),fun _=>rfl⟩
def X4(k:IntKind)(x y:Int):Int:=x.fdiv (2^(min y.toNat k.bits))
def Xn(k:IntKind)(x y:Int):Int:=k.wrap (x*2^(min y.toNat k.bits))
def X9(k:IntKind)(x y:Int):Int:=k.wrap (x.tdiv y)
def FJ(_:IntKind)(x y:Int):Int:=x.tmod y
@[reducible] def shr(i:IntKind)(x y:Int)(k:PT os β):PT os β:=v2 ⟨.num (X4 i x y),fun _=>True,0≤y,inferInstance,fun _ _=>trivial⟩ (fun _=>JX 0 y) (fun _=>A0 (x.fdiv (2^(min y.toNat i.bits))) (X4 i x y)) (fun h _=>⟨h,rfl⟩) k
@[reducible] def shl(i:IntKind)(x y:Int)(k:PT os β):PT os β:=v2 ⟨.num (Xn i x y),fun _=>True,0≤y,inferInstance,fun _ _=>trivial⟩ (fun _=>JX 0 y) (fun _=>Br i (x*2^(min y.toNat i.bits)) (Xn i x y)) (fun h _=>⟨h,rfl⟩) k
@[reducible] def quo(i:IntKind)(x y:Int)(k:PT os β):PT os β:=v2 ⟨.num (X9 i x y),fun _=>True,y≠0,inferInstance,fun _ _=>trivial⟩ (fun _=>JY y 0) (fun _=>Br i (x.tdiv y) (X9 i x y)) (fun h _=>⟨h,rfl⟩) k
@[reducible] def rem(i:IntKind)(x y:Int)(k:PT os β):PT os β:=v2 ⟨.num (FJ i x y),fun _=>True,y≠0,inferInstance,fun _ _=>trivial⟩ (fun _=>JY y 0) (fun _=>A0 (x.tmod y) (FJ i x y)) (fun h _=>⟨h,rfl⟩) k
@[reducible] def sa(w:AT→AT)(p:En→Prop)(c:Prop)[d:Decidable c](h:c→∀E,p E):Sp:=⟨w,p,c,d,h⟩
structure KC (P:Program) (f:FuncId) (xs:List AV) {γ:Type} (M:Option γ) (e:γ→AV):Prop where
 k:∀l H y,M=some y→Zbb P f l xs H (fun z H'=>z=e y∧H'=H)
 x:∀r,Ae r xs=xs
 e:∀r y,ren r (e y)=e y
theorem Md{P:Program}{f:FuncId}{xs:List AV}{γ:Type}{M N:Option γ}{e:γ→AV}(h:KC P f xs M e)(k:KC P f xs N e):KC P f xs (M <|> N) e:=
 ⟨fun l H y hy=>by
  cases M with
  |none=>exact k.k l H y hy
  |some z=>exact h.k l H y hy,h.x,h.e⟩
@[reducible] def cl{P:Program}{f:FuncId}{xs:List AV}{γ:Type}[Inhabited γ]{M:Option γ}{e:γ→AV}(K:KC P f xs M e)(k:γ→PT os β):PT os β:=
 ⟨.call (e (M.getD default)) [] (k (M.getD default)).a,fun E=>D9 P E.l E.r f xs [] (e (M.getD default))∧(k (M.getD default)).q E,M.bind fun y=>(k y).m,fun E=>∀y,(k y).n E,fun E h y hm g=>by
  obtain⟨x,a,c⟩:=bind_some hm
  have d:M.getD default=x:=by rw[a];rfl
  rw[d]
  exact⟨fun b _ _=>by rw[K.x,K.e];exact K.k _ b x a,(k x).ok E (h x) y c g⟩⟩
@[reducible] def Ct(b:Bool){P:Program}{f:FuncId}{xs:List AV}{γ:Type}[Inhabited γ]{M:Option γ}{e:γ→AV}(K:KC P f xs M e)(k:γ→PT os β):PT os β:=
 ⟨.call (e (M.getD default)) [] (k (M.getD default)).a,fun E=>(b=true→D9 P E.l E.r f xs [] (e (M.getD default)))∧(k (M.getD default)).q E,if(b=true→M.isSome=true)then(k (M.getD default)).m else none,fun E=>∀y,(k y).n E,fun E j y hm h=>by
  obtain⟨d,hm⟩:=Bt hm
  refine⟨fun i c _ _=>?_,(k _).ok E (j _) y hm h⟩
  obtain⟨x,a⟩:=YM.1 (d i)
  have g:M.getD default=x:=by rw[a];rfl
  rw[K.x,K.e,g];exact K.k _ c x a⟩
theorem KC.nrm{P:Program}{f:FuncId}{xs xs':List AV}{γ:Type}{M:Option γ}{e:γ→AV}(K:KC P f xs M e)(h:∀l H Post,Zbb P f l xs H Post→Zbb P f l xs' H Post)(hx:∀r,Ae r xs'=xs'):KC P f xs' M e:=⟨fun l H y hm=>h _ _ _ (K.k l H y hm),hx,K.e⟩
end
section
variable {P:Program} {T:Nat→Option TI} {n:Nat} {C:Cx} {τ σ:St} {Q:Exit→St→Prop} {os:Nat} {p:List Nat} {b:Code}
def pa:List Nat→Code→Code
 |[],c=>c
 |i::p,c=>EW [i] (pa p c)
def jT:Code→Bool
 |.seq _ _=>true
 |_=>false
def jH(i:Nat):Code→Bool
 |.block j _=>Nat.beq j i
 |_=>false
def Wj:Code→Bool
 |.cond _ _ _=>true
 |_=>false
def jv:Code→Bool
 |.loop _=>true
 |_=>false
theorem sq(h:LW P n C (pa (0::p) b) τ (fun e τ'=>match e with|.normal=>LW P n C (pa (1::p) b) τ' Q|e=>Q e τ'))(hs:jT (pa p b)=true:=by kernel_rfl):LW P n C (pa p b) τ Q:=by
 unfold pa at h
 generalize pa p b=c at*
 cases c with
 |seq x y=>exact ja h
 |_=>cases hs
def Mf(P:Program)(T:Nat→Option TI)(l n os:Nat)(r:Ren):Nat→Code→AT→St→(Exit→St→AT→Prop)→Prop
 |0,_,a,τ,K=>K .normal τ a
 |m+1,.seq x y,a,τ,K=>Bz P T l n os r x a τ (fun e τ' b=>match e with|.normal=>Mf P T l n os r m y b τ' K|e=>K e τ' b)
 |_,_,_,_,_=>False
def If:Nat→Code→Code
 |m+1,.seq _ y=>If m y
 |_,c=>c
def up:Nat→List Nat→List Nat
 |0,p=>p
 |m+1,p=>up m (1::p)
def MK:Nat→Code→Bool
 |m+1,.seq _ y=>MK m y
 |0,_=>true
 |_,_=>false
theorem UP:∀(m:Nat) (p:List Nat),MK m (pa p b)=true→If m (pa p b)=pa (up m p) b
 |0,p,_=>by
  show If 0 (pa p b)=pa p b
  cases pa p b<;>rfl
 |m+1,p,h=>by
  have a:=UP m (1::p)
  have e:pa (1::p) b=EW [1] (pa p b):=rfl
  show If (m+1) (pa p b)=pa (up m (1::p)) b
  generalize pa p b=c at*
  cases c with
  |seq x y=>
   have e:pa (1::p) b=y:=e
   rw[e]at a
   exact a h
  |_=>cases h
theorem Sg(o:CxOk C)(q:AL P T)(hm:P.follows .mixedOrders=true){γ:Aa→Nat}{QQ:Exit→St→Prop}(r:∀e σ b,QQ e b→Wk n C σ b→QQ e σ):∀(m:Nat) (c:Code) (a:AT) (τ σ:St) (K:Exit→St→AT→Prop),Mf P T C.l n C.outs (C.r γ) m c a τ K→RG (C.r γ) C.l C.outs [] τ σ→
  (∀τ' d b,K .normal τ' d→RG (C.r γ) C.l C.outs [] τ' b→A5 P C.l n C.B (If m c) QQ b)→(∀e τ' d b,e≠.normal→K e τ' d→RG (C.r γ) C.l C.outs [] τ' b→QQ e b)→A5 P C.l n C.B c QQ σ
 |0,c,a,τ,σ,K,h,f,g,_=>by
  have:=g τ a σ h f
  have e:If 0 c=c:=by cases c<;>rfl
  grind
 |m+1,c,a,τ,σ,K,h,f,g,p=>by
  cases c with
  |seq x y=>
   refine ON (Ey (Dx o q hm x a τ σ _ h f) fun e b hi=>?_)
   obtain⟨τ',d,i,j,k,l⟩:=hi
   cases e with
   |normal=>exact A5.weak (Sg o q hm r m y d τ' i K j k g p) l
   |_=>exact r _ _ _ (p _ _ _ _ (by intro e;cases e) j k) l
  |_=>exact h.elim
variable {β:Type} {Post:AV→List Blk→Prop} {rs:List ResultVar} {L:β→Prop} {y:β}
theorem mm{fx:List Nat}(co:COx C os fx)(i:AL P T)(hm:P.follows .mixedOrders=true){c:Code}(v:PT os β)(h:v.m=some y)(f:HL L y)
  (j:∀r (g:Gd C r),v.n ⟨⟨C.l,r,fun _ _=>False,Post⟩,L,C,_,co,g,rfl⟩) (k:∀l r Q Post,Bz P T l n os r c v.a τ (KF T rs os Post)=v.q ⟨l,r,Q,Post⟩:=by intro l r Q P;kernel_rfl):LW P n C c τ (FQ T rs os Post):=
 gP co.ok i hm co.O v.a rs (fun r Post=>v.q ⟨C.l,r,fun _ _=>False,Post⟩) (fun r Post=>k _ r _ Post) fun r a b d e=>v.ok _ (j r ⟨a,b,d,e⟩) y h f
theorem kV{fx:List Nat}(co:COx C os fx)(k:AL P T)(hm:P.follows .mixedOrders=true){c:Code}(v:PT os β)(lf a:Lf)(j:∀τ,FQ T rs os Post .ret τ→Q .ret τ)(h:v.m=some y)(i:HL L y)
  (m:∀r (g:Gd C r),v.n ⟨⟨C.l,r,Q,Post⟩,L,C,_,co,g,rfl⟩) (o:∀l r Q Post,Bz P T l n os r c v.a τ (KB T rs os fx r Post lf a Q)=v.q ⟨l,r,Q,Post⟩:=by intro l r Q P;kernel_rfl):LW P n C c τ Q:=
 gR co.ok k hm co.O co.F v.a lf a rs (fun r Q Post=>v.q ⟨C.l,r,Q,Post⟩) (o _) j fun r b d e f=>v.ok _ (m r ⟨b,d,e,f⟩) y h i
theorem lL{fx:List Nat}(co:COx C os fx)(I:AL P T)(hm:P.follows .mixedOrders=true)(m:Nat)(v:PT os β)(lf O:Lf)(H:∀τ,FQ T rs os Post .ret τ→Q .ret τ)(M:v.m=some y)(G:HL L y)
  (J:∀r (g:Gd C r),v.n ⟨⟨C.l,r,fun e τ'=>match e with|.normal=>LW P n C (pa (up m p) b) τ' Q|e=>Q e τ',Post⟩,L,C,_,co,g,rfl⟩)
  (K:∀l r Q Post,Mf P T l n os r m (pa p b) v.a τ (KB T rs os fx r Post lf O Q)=v.q ⟨l,r,Q,Post⟩:=by intro l r Q P;kernel_rfl) (hl:MK m (pa p b)=true:=by kernel_rfl):LW P n C (pa p b) τ Q:=by
 intro γ σ u F
 have s:=v.ok _ (J (C.r γ) ⟨rfl,rfl,rfl,rfl⟩) y M G
 rw[←K]at s
 generalize v.a=a at s
 rw[←co.O,←co.F]at s
 refine Sg co.ok I hm (QQ:=fun e σ=>Is n C (Q e) σ) (fun e σ D hi hw=>?_) m _ _ _ _ _ s F (fun τ' q D d c=>?_) (fun e τ' q D w d c=>?_)
 ·obtain⟨k,t,o,N,f,h,j⟩:=hi
  exact⟨k,t,o,N,f,h,hw.trans j⟩
 ·simp only[KB]at d
  obtain⟨S,E,R,f,h,j⟩:=Bh (n:=n) co.ok q d c
  obtain⟨k,t,o,x,z,A,B⟩:=Ez (n:=n) co.ok f u h
  rw[UP m p hl]
  exact A5.weak (z k o x A) (j.trans B)
 ·cases e with
  |normal=>exact absurd rfl w
  |ret=>exact .of u c (H _ ⟨.inr rfl,q,by rw[←co.O];exact d⟩)
  |exit i=>
   simp only[KB]at d
   obtain⟨S,E,R,f,h,j⟩:=Bh (n:=n) co.ok q d c
   obtain⟨k,t,o,x,z,A,B⟩:=Ez (n:=n) co.ok f u h
   exact⟨k,t,o,x,z,A,j.trans B⟩
  |_=>exact d.elim
theorem bk(i:Nat)(h:LW P n C (pa (0::p) b) τ (fun e τ'=>match e with|.exit j=>(match Nat.beq j i with|true=>Q .normal τ'|false=>Q (.exit j) τ')|e=>Q e τ'))(hs:jH i (pa p b)=true:=by kernel_rfl):LW P n C (pa p b) τ Q:=by
 unfold pa at h
 generalize pa p b=c at*
 cases c with
 |block j x=>exact dv i x (by rw[show j=i from Ya hs]) h
 |_=>cases hs
theorem cd(x:Bool){f g:Option β}(hm:(if x=true then f else g)=some y)(a:f=some y→LW P n C (pa (0::p) b) τ Q)(d:g=some y→LW P n C (pa (1::p) b) τ Q)(hs:Wj (pa p b)=true:=by kernel_rfl)(he:ev τ.s (Uk (pa p b))=.d (.bool x):=by kernel_rfl):LW P n C (pa p b) τ Q:=by
 unfold pa at a d
 generalize pa p b=c at*
 cases c with
 |cond o u v=>exact iF he (fun e=>a (by rw[Yj e]at hm;exact hm)) (fun e=>d (by rw[Yq (by rw[e];decide)]at hm;exact hm))
 |_=>cases hs
theorem lo(h:LL P n C (pa (0::p) b) τ Q)(hs:jv (pa p b)=true:=by kernel_rfl):LW P n C (pa p b) τ Q:=by
 unfold pa at h
 generalize pa p b=c at*
 cases c with
 |loop x=>exact fU h
 |_=>cases hs
theorem EU(v:PT os β){fx:List Nat}(co:COx C os fx)(e:v.m=some y)(a:HL L y)(b:∀r (g:Gd C r),v.n ⟨⟨C.l,r,fun _ _=>False,Post⟩,L,C,_,co,g,rfl⟩)(r:Ren)(d:Gd C r)
  (c:∀l r Q Post,JB T rs os τ v.a Post=v.q ⟨l,r,Q,Post⟩:=by intro l r Q P;kernel_rfl):FQ T rs os Post .normal τ:=
 ⟨.inl rfl,v.a,by rw[c C.l r (fun _ _=>False) Post];exact v.ok _ (b r d) y e a⟩
end
section
variable {σ ξ ρ:Type}
def At(B:σ→Option (Lv σ ξ ρ)):Nat→σ→Option (ξ ⊕ ρ)
 |0,_=>none
 |n+1,v=>match B v with
  |some (.nx a)=>At B n a
  |some (.ex b)=>some (.inl b)
  |some (.rt y)=>some (.inr y)
  |none=>none
def Aq:Nat:=4611686018427387904
def Q4(S:σ→St)(X:ξ→Nat×St)(er:ρ→AV)(bs:ρ→List Blk)(Q:Exit→St→Prop)(Post:AV→List Blk→Prop):Lv σ ξ ρ→Prop
 |.nx v=>Q .normal (S v)
 |.ex b=>Q (.exit (X b).1) (X b).2
 |.rt y=>Post (er y) (bs y)
variable {P:Program} {T:Nat→Option TI} {n:Nat} {C:Cx} {τ:St} {Q:Exit→St→Prop} {rs:List ResultVar} {os:Nat} {c:Code} {Post:AV→List Blk→Prop}
variable {S:σ→St} {X:ξ→Nat×St} {er:ρ→AV} {bs:ρ→List Blk} {B:σ→Option (Lv σ ξ ρ)}
def KL(P:Program)(T:Nat→Option TI)(n:Nat)(C:Cx)(c:Code)(rs:List ResultVar)(os:Nat)(S:σ→St)(X:ξ→Nat×St)(er:ρ→AV)(bs:ρ→List Blk)(B:σ→Option (Lv σ ξ ρ)):Prop:=
 ∀v o,B v=some o→∀(Q:Exit→St→Prop) (Post:AV→List Blk→Prop),(∀τ,FQ T rs os Post .ret τ→Q .ret τ)→HL (Q4 S X er bs Q Post) o→LW P n C c (S v) Q
theorem SE(g:KL P T n C c rs os S X er bs B)(f:∀τ,FQ T rs os Post .ret τ→Q .ret τ):∀(k:Nat) (v:σ) (o:ξ ⊕ ρ),At B k v=some o→
  (∀b,o=.inl b→Q (.exit (X b).1) (X b).2)→(∀y,o=.inr y→Post (er y) (bs y))→LL P n C c (S v) Q
 |0,v,o,h,_,_=>by cases h
 |k+1,v,o,h,d,e=>by
  rw[At]at h
  refine eZ ?_
  cases a:B v with
  |none=>rw[a]at h;cases h
  |some w=>
   rw[a]at h
   refine g v w a _ Post (fun τ i=>f τ i) ?_
   cases w with
   |nx j=>exact SE g f k j o h d e
   |ex b=>cases h;exact d b rfl
   |rt y=>cases h;exact e y rfl
theorem ZH{β:Type}{k:ξ ⊕ ρ→Option β}{N:Nat}{v:σ}{y:β}(i:KL P T n C c rs os S X er bs B)(h:∀τ,FQ T rs os Post .ret τ→Q .ret τ)(hm:(At B N v).bind k=some y)
  (f:∀b,k (.inl b)=some y→Q (.exit (X b).1) (X b).2) (g:∀z,k (.inr z)=some y→Post (er z) (bs z)):LL P n C c (S v) Q:=by
 obtain⟨o,d,a⟩:=bind_some hm
 exact SE i h N v o d (fun b e=>f b (e▸a)) (fun z e=>g z (e▸a))
theorem AP{g:ξ→Option ρ}{N:Nat}{v:σ}{y:ρ}(f:KL P T n C c rs os S X er bs B)(e:∀τ,FQ T rs os Post .ret τ→Q .ret τ)(hm:(At B N v).bind (Sum.elim g some)=some y)(d:HL (fun y=>Post (er y) (bs y)) y)
  (a:∀b,g b=some y→Q (.exit (X b).1) (X b).2) (hs:S v=τ:=by kernel_rfl):LL P n C c τ Q:=
 hs▸ZH f e hm a fun z h=>by cases h;exact d
theorem ZI{d a:Type}{f:d→St}{h:a→Nat×St}{e:Exit→St→Prop}{g:ξ→Option (Lv d a ρ)}{N:Nat}{v:σ}{y:Lv d a ρ}(l:KL P T n C c rs os S X er bs B)(k:∀τ,FQ T rs os Post .ret τ→Q .ret τ)(hm:(At B N v).bind (Sum.elim g fun z=>some (.rt z))=some y)(j:HL (Q4 f h er bs e Post) y)
  (i:∀b,g b=some y→Q (.exit (X b).1) (X b).2) (hs:S v=τ:=by kernel_rfl):LL P n C c τ Q:=
 hs▸ZH l k hm i fun z m=>by cases m;exact j
end
theorem Ci{P:Program}{T:Nat→Option TI}{n:Nat}{f:FuncId}{fn:Func}{xs:List AV}{γ:Type}{M:Option γ}{e:γ→AV}(d:P.funcs[f]?=some fn)(g:fn.ntmps=n)(b:AL P T)(rs:List ResultVar)
  (h:∀C:Cx,CO C 0→∀y,M=some y→∀Post:AV→List Blk→Prop,HL (fun y=>Post (e y) []) y→LW P n C (pa [] (AB fn)) (Ab (B4 0 xs) []) (FQ T rs 0 Post))
  (hx:∀r,Ae r xs=xs:=by intro r;kernel_rfl) (he:∀r y,ren r (e y)=e y:=by intro r y;kernel_rfl)
  (c:fn.body=some (AB fn):=by kernel_rfl) (a:(fn.name== "runtime.NumGoroutine")=false:=by kernel_rfl) (i:fn.results.toList=rs:=by kernel_rfl) (hl:Nat.ble xs.length n=true:=by kernel_rfl):KC P f xs M e:=
 ⟨fun l H y hm=>bP rs (AB fn) (fun _=>.top) xs d c a g i (Yd hl) b (hx _) fun B=>h _ ⟨SH l B _ H,rfl,rfl,fun _ h=>absurd h (Er _)⟩ y hm (fun z _=>z=e y∧H=H) ⟨rfl,rfl⟩,hx,he⟩
end Go.Eng
namespace Go.Eng
set_option linter.all false
open Go Go.RowKit
def BW:Nat→List Blk→List (Aa×Blk)
 |_,[]=>[]
 |i,b::bs=>((0,i),b)::BW (i+1) bs
abbrev Cl:=(Aa→Prop)→Nat→Hp→(Nat→AV)→Prop
structure KO (P:Program) (f:FuncId) (os:Nat) (ys:List AV) (bi:List Blk) (Θ:Cl) {γ:Type} (M:Option γ) (e:γ→AV) (bs:γ→List Blk):Prop where
 k:∀l H (ks:List Aa) (gs:List Nat) (θ:Nat→AV),ks.length=os→FR l ks→ks.Nodup→Gg H (Bp l ks gs θ H) (BW 0 bi) 0 ks→Θ (fun k=>k∈ks) l H θ→∀y,M=some y→
  Zbb P f l (Ae (Bp l ks gs θ H) ys) H (fun z H'=>z=ren (Bp l ks gs θ H) (e y)∧H'=B5 H ks (BH (Bp l ks gs θ H) 0 (bs y)))
mutual
def F8(os:Nat):AV→Bool
 |.ref k _ _ _=>Nat.beq k.1 0&&Nat.ble (k.2+1) os
 |.ptr k _ _=>Nat.beq k.1 0&&Nat.ble (k.2+1) os
 |.mp k _=>Nat.beq k.1 0&&Nat.ble (k.2+1) os
 |.fn f xs ys=>(match f with|.yield _=>false|_=>true)&&FK os xs&&FK os ys
 |.agg xs=>FK os xs
 |.tup xs=>FK os xs
 |.top=>true
 |.d _=>true
 |.e0=>true
 |.p _=>true
 |.iptr _ _=>true
 |.ifc _ _ _=>true
def FK(os:Nat):List AV→Bool
 |[]=>true
 |x::xs=>F8 os x&&FK os xs
end
def HF(os:Nat)(r a:Ren):Prop:=∀q,q<os→r.κ (0,q)=a.κ (0,q)∧r.γ (0,q)=a.γ (0,q)
theorem OX{os:Nat}{r c:Ren}(hs:HF os r c){k:Aa}(h:(Nat.beq k.1 0&&Nat.ble (k.2+1) os)=true):r.κ k=c.κ k∧r.γ k=c.γ k:=by
 simp only[Yc]at h
 obtain⟨a,b⟩:=k
 have d:=Ya h.1
 have e:=Yd h.2
 simp only at d e
 subst d
 exact hs b e
mutual
theorem O2{os:Nat}{r c:Ren}(hs:HF os r c):∀x:AV,F8 os x=true→ren r x=ren c x
 |.ref k g off n,h=>by obtain⟨a,b⟩:=OX hs h;simp only[ren,a,b]
 |.ptr k g off,h=>by obtain⟨a,b⟩:=OX hs h;simp only[ren,a,b]
 |.mp k g,h=>by obtain⟨a,b⟩:=OX hs h;simp only[ren,a,b]
 |.fn f xs ys,h=>by
  simp only[F8,Yc]at h
  have a:=Ho hs xs h.1.2
  have b:=Ho hs ys h.2
  cases f<;>first|(simp only[ren,a,b];done)|(simp at h)
 |.agg xs,h=>by simp only[F8]at h;simp only[ren,Ho hs xs h]
 |.tup xs,h=>by simp only[F8]at h;simp only[ren,Ho hs xs h]
 |.top,_=>by simp[ren]
 |.d _,_=>by simp[ren]
 |.e0,_=>by simp[ren]
 |.p _,_=>by simp[ren]
 |.iptr _ _,_=>by simp[ren]
 |.ifc _ _ _,_=>by simp[ren]
theorem Ho{os:Nat}{r a:Ren}(hs:HF os r a):∀xs:List AV,FK os xs=true→Ae r xs=Ae a xs
 |[],_=>by simp[Ae]
 |x::xs,h=>by
  simp only[FK,Yc]at h
  simp only[Ae,O2 hs x h.1,Ho hs xs h.2]
end
def Dk(os:Nat):List Blk→Prop
 |[]=>True
 |b::bs=>(EN b.cells∨FK os b.cells=true)∧b.live=true∧Dk os bs
theorem Dk.ren{os:Nat}{r a:Ren}(hs:HF os r a):∀(bs:List Blk) (i:Nat),i+bs.length≤os→Dk os bs→BH r i bs=BH a i bs
 |[],_,_,_=>rfl
 |b::bs,i,hl,h=>by
  simp only[Y7]at hl
  have d:Ae r b.cells=Ae a b.cells:=by
   rcases h.1 with c|e
   ·rw[Fq c,Fq c]
   ·exact Ho hs _ e
  simp only[BH,Dk.ren hs bs (i+1) (by omega) h.2.2,An,d,(hs i (by omega)).2]
theorem Dk.live{os:Nat}:∀{bs:List Blk},Dk os bs→∀b∈bs,b.live=true
 |c::bs,h,b,a=>by
  rcases YJ.1 a with rfl|a
  ·exact h.2.1
  ·exact Dk.live h.2.2 b a
theorem FA:EN []:=fun x hx=>by cases hx
theorem Ds{P:Program}{T:Nat→Option TI}{n:Nat}{f:FuncId}{fn:Func}{ys:List AV}{bi:List Blk}{Θ:Cl}{γ:Type}{M:Option γ}{e:γ→AV}{bs:γ→List Blk}(J:P.funcs[f]?=some fn)(K:fn.ntmps=n)(G:AL P T)(u:List ResultVar)(os:Nat)
  (h:∀C:Cx,CO C os→Θ C.no C.l C.H0 C.θ→∀y,M=some y→∀a:AV→List Blk→Prop,HL (fun y=>a (e y) (bs y)) y→LW P n C (pa [] (AB fn)) (Ab (B4 0 ys) (BW 0 bi)) (FQ T u os a))
  (he:∀y,F8 os (e y)=true:=by intro y;kernel_rfl) (v:∀y,Dk os (bs y):=by intro y;repeat(first|exact trivial|refine⟨.inl (CN _ _),rfl,?_⟩|refine⟨.inl FA,rfl,?_⟩|refine⟨.inr (by kernel_rfl),rfl,?_⟩)) (hl:∀y,(bs y).length=os:=by intro y;rfl) (o:EV os (BW 0 bi)=true:=by kernel_rfl)
  (I:fn.body=some (AB fn):=by kernel_rfl) (c:(fn.name== "runtime.NumGoroutine")=false:=by kernel_rfl) (d:fn.results.toList=u:=by kernel_rfl) (hx:Nat.ble ys.length n=true:=by kernel_rfl):KO P f os ys bi Θ M e bs:=
 ⟨fun l H ks g θ p i t E hΘ y hy=>by
  have w:∀r,Ff l ks g r→HF os r (Bp l ks g θ H):=fun r d q L=>by
   obtain⟨x,A⟩:=d
   exact⟨congrFun x _,A q (by omega)⟩
  refine bg u (AB fn) ks g os θ ys (BW 0 bi) (e y) (bs y) (Y':=ren (Bp l ks g θ H) (e y)) (bs':=BH (Bp l ks g θ H) 0 (bs y)) J I c K d (by rw[Bx];exact Yd hx) G p i t o E rfl (hl y) (v y).live
   (fun r d=>O2 (w r d) _ (he y)) (fun r d=>Dk.ren (w r d) _ _ (by rw[hl];omega) (v y)) (fun C B F D s m N O j=>?_) ⟨rfl,rfl⟩
  refine h C ⟨B,F,D,fun q L=>?_⟩ (by rw[j,s,m,N];exact hΘ) y hy (fun z b=>z=e y∧b=bs y) ⟨rfl,rfl⟩
  rw[j,O]
  show(match AS ks q with|some k=>k|none=>(0,0))∈ks
  rw[Bk,Yb (by omega)]
  exact G7 _⟩
def CX(r:Ren):List (Aa×Blk)→List Nat
 |[]=>[]
 |(k,b)::a=>(r.γ k+b.g)::CX r a
def BE(r a:Ren):Nat→List Blk→List (Aa×Blk)→Prop
 |i,b::bs,(k,c)::cs=>(b.live=true→c.live=true∧An r (0,i) b=An a k c)∧r.γ (0,i)+b.g=a.γ k+c.g∧BE r a (i+1) bs cs
 |_,[],[]=>True
 |_,_,_=>False
def D1:List Aa→Bool
 |[]=>true
 |k::ks=>!(ks.any (AY k))&&D1 ks
theorem IR{κ:Aa→Aa}{os:Nat}(a:∀q k:Aa,AZ os q=true→AZ os k=true→q≠k→κ q≠κ k):∀(ks:List Aa),D1 ks=true→ks.all (AZ os)=true→(ks.map κ).Nodup
 |[],_,_=>List.nodup_nil
 |k::ks,h,b=>by
  simp only[D1,Yc,Y3]at h
  simp only[Fg,Yc]at b
  rw[Y6,List.nodup_cons]
  refine⟨fun hm=>?_,IR a ks h.2 b.2⟩
  obtain⟨q,d,e⟩:=YO.1 hm
  have c:q≠k:=fun e'=>KV h.1 (e'▸d)
  grind
section
variable {P:Program} {f:FuncId} {os os':Nat} {ys:List AV} {bi:List Blk} {Θ:Cl} {γ:Type} {M:Option γ} {e:γ→AV} {bs:γ→List Blk} {C:Cx} {r:Ren} {xs:List AV} {x:AV} {y:γ}
theorem Lb{fx:List Nat}(co:COx C os' fx)(g:Gd C r):∀q k:Aa,AZ os' q=true→AZ os' k=true→q≠k→r.κ q≠r.κ k:=by
 intro q k m j l he
 rw[g.κ]at he
 rcases DH m with e|⟨e,h⟩<;>rcases DH j with f|⟨f,i⟩
 ·obtain⟨a,b⟩:=q
  obtain⟨c,d⟩:=k
  simp only at e f
  subst e;subst f
  rw[co.ok.own,co.ok.own]at he
  grind
 ·obtain⟨a,b⟩:=q
  obtain⟨c,d⟩:=k
  simp only at e f i
  subst e;subst f
  rw[co.ok.own]at he
  have:=co.ok.out d (by rw[co.O];exact i)
  grind
 ·obtain⟨a,b⟩:=q
  obtain⟨c,d⟩:=k
  simp only at e h f
  subst e;subst f
  rw[co.ok.own]at he
  have:=co.ok.out b (by rw[co.O];exact h)
  grind
 ·obtain⟨a,b⟩:=q
  obtain⟨c,d⟩:=k
  simp only at e h f i
  subst e;subst f
  have:=co.ok.inj b d (by rw[co.O];exact h) (by rw[co.O];exact i) he
  grind
theorem HB{fx:List Nat}(co:COx C os' fx)(g:Gd C r):∀(ks:List Aa),ks.all (AZ os')=true→FR (C.l+1) (ks.map r.κ)
 |[],_=>trivial
 |k::ks,h=>by
  simp only[Fg,Yc]at h
  refine⟨?_,HB co g ks h.2⟩
  rw[g.κ]
  obtain⟨a,b⟩:=k
  rcases DH h.1 with c|⟨c,d⟩
  ·simp only at c;subst c;rw[co.ok.own];exact Ye _
  ·simp only at c d;subst c;exact Nq (co.ok.out b (by rw[co.O];exact d))
theorem I0:∀(bi:List Blk) (i j:Nat),Ak (BW i bi) (0,i+j)=(bi[j]?).getD CW
 |[],i,j=>by simp[BW,Ak]
 |b::bi,i,0=>by simp[BW,Ak,AY]
 |b::bi,i,j+1=>by
  have a:=I0 bi (i+1) j
  simp only[BW,Ak]
  have:AY (0,i) (0,i+(j+1))=false:=by
   simp only[AY,Na]
   right
   cases h:Nat.beq i (i+(j+1))with
   |false=>rfl
   |true=>have:=Ya h;omega
  grind
theorem I5{l:Ren}{d:Hp}:∀(bi:List Blk) (a:List (Aa×Blk)) (i:Nat) (B:List Blk),(∀j,Ak (BW 0 B) (0,i+j)=(bi[j]?).getD CW)→BE l r i bi a→
  (∀p∈a,(d (r.κ p.1)).g=r.γ p.1+p.2.g∧(p.2.live=true→d (r.κ p.1)=An r p.1 p.2))→Gg d l (BW 0 B) i ((a.map (·.1)).map r.κ)
 |[],[],i,B,_,_,_=>trivial
 |b::bi,(k,c)::a,i,B,f,h,g=>by
  have e:=f 0
  simp only[YW,Fk,Dw]at e
  obtain⟨o,q,m⟩:=h
  refine⟨?_,I5 bi a (i+1) B (fun j=>?_) m fun p n=>g p (Yy _ n)⟩
  ·rw[e]
   have s:=g _ (YH ..)
   grind
  ·have:=f (j+1)
   grind
 |[],_::_,_,_,_,h,_=>h.elim
 |_::_,[],_,_,_,h,_=>h.elim
theorem dw{H:Hp}{k:Aa}:updH H k (H k)=H:=by
 funext q
 by_cases h:q=k
 ·subst h;exact Au ..
 ·exact Al _ _ h
theorem OA{g:Ren}{d:Hp}:∀(bi:List Blk) (a:List (Aa×Blk)) (i:Nat),BE g r i bi a→(∀b∈bi,b.live=true)→(∀p∈a,p.2.live=true→d (r.κ p.1)=An r p.1 p.2)→B5 d ((a.map (·.1)).map r.κ) (BH g i bi)=d
 |[],[],_,_,_,_=>rfl
 |b::bi,(k,c)::a,i,h,hl,f=>by
  obtain⟨l,q,m⟩:=h
  have e:=l (hl b (YH ..))
  have j:=f _ (YH ..) e.1
  simp only[Y6,B5,BH]
  rw[e.2,←j,dw]
  exact OA bi a (i+1) m (fun b n=>hl b (Yy _ n)) fun p o=>f p (Yy _ o)
 |[],_::_,_,h,_,_=>h.elim
 |_::_,[],_,h,_,_=>h.elim
theorem OI{j:Ren}:∀(d:List Blk) (f a:List (Aa×Blk)) (i:Nat) (g:Hp),BE j r i d a→(∀b∈d,b.live=true)→f.map (·.1)=a.map (·.1)→B5 g ((f.map (·.1)).map r.κ) (BH j i d)=BQ r a g
 |[],[],[],_,_,_,_,_=>rfl
 |[],_::_,[],_,_,_,_,h=>by cases h
 |b::d,[],_::_,_,_,_,_,h=>by cases h
 |b::d,(k,c)::f,(q,o)::a,i,g,h,hl,he=>by
  obtain⟨l,p,m⟩:=h
  simp only[Y6,List.cons.injEq]at he
  obtain⟨rfl,he⟩:=he
  have e:=l (hl b (YH ..))
  simp only[Y6,B5,BH,BQ]
  rw[e.2]
  exact OI d f a (i+1) _ m (fun b n=>hl b (Yy _ n)) he
 |_::_,_,[],_,_,h,_,_=>h.elim
 |[],_,_::_,_,_,h,_,_=>h.elim
def rC(C:Cx)(r:Ren)(a:List (Aa×Blk))(θ:Nat→AV)(H:Hp):Ren:=Bp (C.l+1) ((a.map (·.1)).map r.κ) (CX r a) θ H
def Th(Θ:Cl)(C:Cx)(r:Ren)(b c:List (Aa×Blk))(θ:Nat→AV):Prop:=
 ∀a,(∀p∈c,(a (r.κ p.1)).g=r.γ p.1+p.2.g∧(p.2.live=true→a (r.κ p.1)=An r p.1 p.2))→(∀k:Aa,k.1≤C.l→¬r.no k→a k=r.H0 k)→Θ (fun k=>k∈(b.map (·.1)).map r.κ) (C.l+1) a θ
theorem BG(K:KO P f os ys bi Θ M e bs)(hy:M=some y){fx:List Nat}(co:COx C os' fx)(g:Gd C r)(a k:List (Aa×Blk))(θ:Nat→AV)(hΘ:Th Θ C r a (a++k) θ)(l:∀H,BE (rC C r a θ H) r 0 bi a)(t:bs y=bi:=by rfl)(n:bi.all Blk.live=true:=by kernel_rfl)(i:(a++k).all (fun p=>p.2.live)=true:=by kernel_rfl)(hx:∀H,Ae (rC C r a θ H) ys=Ae r xs:=by intro H;kernel_rfl)(u:∀H,ren (rC C r a θ H) (e y)=ren r x:=by intro H;kernel_rfl)
  (m:((a.map (·.1)).all (AZ os')&&D1 (a.map (·.1))&&Nat.beq a.length os)=true:=by kernel_rfl):D9 P C.l r f xs (a++k) x:=by
 intro d v D
 have s:∀b∈bi,b.live=true:=fun b E=>Yo.1 n b E
 have o:∀p∈a++k,p.2.live=true:=fun p c=>Yo.1 i p c
 have h:∀p∈a,p∈a++k:=fun p c=>Gj _ c
 simp only[Yc]at m
 have q:∀p∈a++k,(d (r.κ p.1)).g=r.γ p.1+p.2.g∧(p.2.live=true→d (r.κ p.1)=An r p.1 p.2):=fun p c=>⟨by rw[v p c (o p c)];rfl,v p c⟩
 have:=K.k (C.l+1) d ((a.map (fun p:Aa×Blk=>p.1)).map r.κ) (CX r a) θ (by rw[YF,YF];exact Ya m.2) (HB co g _ m.1.1) (IR (Lb co g) _ m.1.2 m.1.1)
  (I5 bi a 0 bi (fun j=>by have:=I0 bi 0 j;rwa [YL]at this⊢) (l d) fun p c=>q p (h p c)) (hΘ d q D) y hy
 rw[←hx d]
 refine this.mono fun z w ⟨A,B⟩=>⟨A.trans (u d),B.trans ?_⟩
 rw[t]
 exact OA bi a 0 (l d) s fun p c hl=>(q p (h p c)).2 hl
theorem Dz(K:KO P f os ys bi Θ M e bs)(hy:M=some y){fx:List Nat}(co:COx C os' fx)(g:Gd C r)(a m c:List (Aa×Blk))(θ:Nat→AV)(hΘ:Th Θ C r a (a++m) θ)
  (n:∀H,BE (rC C r a θ H) r 0 bi a) (h:∀H,BE (rC C r a θ H) r 0 (bs y) c) (k:(bs y).all Blk.live=true:=by kernel_rfl) (hx:∀H,Ae (rC C r a θ H) ys=Ae r xs:=by intro H;kernel_rfl) (s:∀H,ren (rC C r a θ H) (e y)=ren r x:=by intro H;kernel_rfl)
  (i:((a.map (·.1)).all (AZ os')&&D1 (a.map (·.1))&&Nat.beq a.length os)=true:=by kernel_rfl) (he:a.map (·.1)=c.map (·.1):=by rfl):EL P C.l r f xs (a++m) x c []:=by
 have o:∀b∈bs y,b.live=true:=fun b B=>Yo.1 k b B
 have l:∀p∈a,p∈a++m:=fun p q=>Gj _ q
 refine dN rfl rfl fun d t A=>?_
 simp only[Yc]at i
 have:=K.k (C.l+1) d ((a.map (fun p:Aa×Blk=>p.1)).map r.κ) (CX r a) θ (by rw[YF,YF];exact Ya i.2) (HB co g _ i.1.1) (IR (Lb co g) _ i.1.2 i.1.1)
  (I5 bi a 0 bi (fun j=>by have:=I0 bi 0 j;rwa [YL]at this⊢) (n d) fun p q=>t p (l p q)) (hΘ d t A) y hy
 rw[←hx d]
 exact this.mono fun z u ⟨v,w⟩=>⟨v.trans (s d),w.trans (OI (bs y) a c 0 d (h d) o he)⟩
end
structure CloM (P:Program) (C:Cx) (i:Nat) (xs:List AV) {γ:Type} (M:Option γ) (e:γ→AV):Prop where
 k:∀y,M=some y→BC P C.l C.no C.H0 (C.θ i) xs (e y)
 x:∀r,Ae r xs=xs
 e:∀r y,ren r (e y)=e y
section
variable {os:Nat} {β γ:Type} [Inhabited γ]
theorem CloM.callF{P:Program}{i:Nat}{xs:List AV}{M:Option γ}{e:γ→AV}(E:Ev os β)(h:CloM P E.C i xs M e){y:γ}(hy:M=some y):Je P E.E.l E.E.r i xs [] (e y):=
 ee (congrFun E.g.θ i) (by rw[E.hl,E.g.no,E.g.H];exact h.k y hy) (h.x _) (h.e _ _)
@[reducible] def cf(P:Program)(i:Nat)(xs:List AV)(M:Option γ)(e:γ→AV)(k:γ→PT os β):PT os β:=
 ⟨.call (e (M.getD default)) [] (k (M.getD default)).a,fun E=>Je P E.l E.r i xs [] (e (M.getD default))∧(k (M.getD default)).q E,M.bind fun y=>(k y).m,fun E=>CloM P E.C i xs M e∧∀y,(k y).n E,fun E b y hm f=>by
  obtain⟨x,a,c⟩:=bind_some hm
  have d:M.getD default=x:=by rw[a];rfl
  rw[d]
  exact⟨b.1.callF E a,(k x).ok E (b.2 x) y c f⟩⟩
@[reducible] def cs(P:Program)(f:FuncId)(xs:List AV)(ks:List Aa)(b:List (Aa×Blk))(M:Option γ)(e:γ→AV)(k:γ→PT os β):PT os β:=
 ⟨.call (e (M.getD default)) ks (k (M.getD default)).a,fun E=>D9 P E.l E.r f xs b (e (M.getD default))∧(k (M.getD default)).q E,M.bind fun y=>(k y).m,fun E=>(∀y,M=some y→D9 P E.C.l E.E.r f xs b (e y))∧∀y,(k y).n E,fun E c y hm h=>by
  obtain⟨x,a,d⟩:=bind_some hm
  have g:M.getD default=x:=by rw[a];rfl
  rw[g]
  exact⟨by rw[E.hl];exact c.1 x a,(k x).ok E (c.2 x) y d h⟩⟩
@[reducible] def mw(b:Bool)(P:Program)(f:FuncId)(xs:List AV)(ks:List Aa)(a:List (Aa×Blk))(M:Option γ)(e:γ→AV)(k:γ→PT os β):PT os β:=
 ⟨.call (e (M.getD default)) ks (k (M.getD default)).a,fun E=>(b=true→D9 P E.l E.r f xs a (e (M.getD default)))∧(k (M.getD default)).q E,if(b=true→M.isSome=true)then(k (M.getD default)).m else none,fun E=>(∀y,M=some y→D9 P E.C.l E.E.r f xs a (e y))∧∀y,(k y).n E,fun E d y hm i=>by
  obtain⟨g,hm⟩:=Bt hm
  refine⟨fun a=>?_,(k _).ok E (d.2 _) y hm i⟩
  obtain⟨x,c⟩:=YM.1 (g a)
  have h:M.getD default=x:=by rw[c];rfl
  rw[h,E.hl];exact d.1 x c⟩
@[reducible] def mv{α:Type}[Rw α](d q:Nat)(xs:List α)(k:PT os β)(a:Nat.ble (q+1) os=true:=by kernel_rfl):PT os β:=
 ⟨.mv d q k.a,fun E=>DF (Ad Rw.e xs)∧(q<os∧E.r.no (E.r.κ (0,q)))∧k.q E,k.m,k.n,fun E c y hm b=>
  ⟨Sx _ _,⟨Yd a,by rw[E.g.no,E.g.κ];exact E.co.W q (Yd a)⟩,k.ok E c y hm b⟩⟩
@[reducible] def mvc{α:Type}[Rw α](d q e i:Nat)(xs:List α)(k:PT os β)(a:Nat.ble (q+1) os=true:=by kernel_rfl):PT os β:=
 ⟨.mvc d q e i k.a,fun E=>DF (Ad Rw.e xs)∧(q<os∧E.r.no (E.r.κ (0,q)))∧k.q E,k.m,k.n,fun E c y hm b=>
  ⟨Sx _ _,⟨Yd a,by rw[E.g.no,E.g.κ];exact E.co.W q (Yd a)⟩,k.ok E c y hm b⟩⟩
end
section
variable {P:Program} {os os':Nat} {ys:List AV} {bi:List Blk} {Θ:Cl} {γ:Type} {M:Option γ} {e:γ→AV} {bs:γ→List Blk} {C:Cx} {r:Ren} {y:γ}
theorem GA{f:FuncId}(K:KO P f os ys bi Θ M e bs)(hy:M=some y){fx:List Nat}(co:COx C os' fx)(g:Gd C r)(c m:List (Aa×Blk)){x:List (Aa×Blk)}{w:Hp}(N:∀p∈x,(w (r.κ p.1)).g=r.γ p.1+p.2.g∧(p.2.live=true→w (r.κ p.1)=An r p.1 p.2))(v:∀p∈c,p∈x)
  {I d:List AV} (θ:Nat→AV) (hΘ:∀i a,Θ (fun k=>k∈(c.map (·.1)).map r.κ) i a θ) (q:∀l H,BE (Bp l ((c.map (·.1)).map r.κ) (CX r c) θ H) r 0 bi c) (D:bs y=bi:=by rfl) (u:bi.all Blk.live=true:=by kernel_rfl)
  (hx:∀l H,Ae (Bp l ((c.map (·.1)).map r.κ) (CX r c) θ H) ys=I++d:=by intro l H;kernel_rfl) (E:∀l H,ren (Bp l ((c.map (·.1)).map r.κ) (CX r c) θ H) (e y)=e y:=by intro l H;kernel_rfl)
  (G:(((c++m).map (·.1)).all (AZ os')&&D1 ((c++m).map (·.1))&&Nat.beq c.length os)=true:=by kernel_rfl):BC P (C.l+1) (fun k=>k∈(m.map (·.1)).map r.κ) w (.fn (.func f) [] d) I (e y):=by
 have B:∀b∈bi,b.live=true:=fun b x=>Yo.1 u b x
 refine⟨f,[],d,rfl,fun i a hl O=>?_⟩
 simp only[Yc,List.map_append,List.all_append]at G
 obtain⟨⟨⟨F,R⟩,S⟩,T⟩:=G
 have n:=IR (Lb co g) _ S (by rw[List.all_append,F,R];rfl)
 rw[List.map_append,List.nodup_append]at n
 have A:∀p∈c,a (r.κ p.1)=w (r.κ p.1):=fun p o=>by
  have hm:r.κ p.1∈(c.map (·.1)).map r.κ:=Nj (Nj o)
  exact O _ (KZ (HB co g _ F) _ hm) fun h=>n.2.2 _ hm _ h rfl
 have s:∀p∈c,(a (r.κ p.1)).g=r.γ p.1+p.2.g∧(p.2.live=true→a (r.κ p.1)=An r p.1 p.2):=fun p o=>by rw[A p o];exact N p (v p o)
 have t:FR i ((c.map (·.1)).map r.κ):=by
  have:=HB co g (c.map (·.1)) F
  generalize (c.map (·.1)).map r.κ=ks at this
  induction ks with
  |nil=>trivial
  |cons k ks Q=>exact⟨Y2 this.1 hl,Q this.2⟩
 have:=K.k i a ((c.map (fun p:Aa×Blk=>p.1)).map r.κ) (CX r c) θ (by rw[YF,YF];exact Ya T) t n.1
  (I5 bi c 0 bi (fun j=>by have:=I0 bi 0 j;rwa [YL]at this⊢) (q i a) s) (hΘ i a) y hy
 rw[Et,←hx i a]
 refine this.mono fun z U ⟨J,L⟩=>⟨J.trans (E i a),L.trans ?_⟩
 rw[D]
 exact OA bi c 0 (q i a) B fun p o hl=>(s p o).2 hl
theorem I8{f:FuncId}{xs:List AV}(K:KC P f xs M e)(hy:M=some y){l:Nat}{no:Aa→Prop}{H:Hp}:BC P l no H (.fn (.func f) [] []) xs (e y):=fv fun b a=>K.k b a y hy
end
theorem O6{C:Cx}{r:Ren}{os':Nat}{P:Program}{i:Nat}{xs:List AV}{y:AV}{fx:List Nat}(co:COx C os' fx)(g:Gd C r)(m:List (Aa×Blk)){l:Hp}(p:∀k:Aa,k.1≤C.l→¬r.no k→l k=r.H0 k)(h:BC P C.l C.no C.H0 (C.θ i) xs y)
  (o:((m.map (·.1)).all (AZ os'))=true:=by kernel_rfl):BC P (C.l+1) (fun k=>k∈(m.map (·.1)).map r.κ) l (r.θ i) xs y:=by
 rw[g.θ]
 refine fF h (Nat.le_succ _) (fun q f d hm=>?_) fun q f d=>?_
 ·obtain⟨k,j,e⟩:=YO.1 hm
  rw[g.κ]at e
  obtain⟨a,b⟩:=k
  rcases DH (Yo.1 o _ j)with c|⟨c,n⟩
  ·simp only at c;subst c;rw[co.ok.own]at e;rw[←e]at f;simp only at f;omega
  ·simp only at c n;subst c;rw[←e]at d;exact d (co.W b n)
 ·rw[←g.H];exact p q f (by rw[g.no];exact d)
theorem DB{r b:Ren}{k k':Aa}{g a:Nat}{e:EK}{sz:Nat}{cs:List AV}(h:EN cs)(c:r.γ k+g=b.γ k'+a):An r k ⟨g,true,e,sz,cs⟩=An b k' ⟨a,true,e,sz,cs⟩:=by
 simp only[An,Fq h,c]
section
variable {P:Program} {T:Nat→Option TI} {n:Nat} {C:Cx} {τ:St} {Q:Exit→St→Prop} {os k:Nat} {c:Code} {β:Type} {L:β→Prop} {y:β}
theorem mh{fx:List Nat}(co:COx C os fx)(o:AL P T)(m:Nat)(v:PT os β)(lf:Lf)(s:v.m=some y)(j:HL L y)(p:∀r (g:Gd C r),v.n ⟨⟨C.l,r,fun _ τ'=>LO P n C c (k+m) τ' Q,fun _ _=>False⟩,L,C,_,co,g,rfl⟩)
  (q:∀l r Q b,AG r os v.a τ (fun τ a=>Do P T l n r ((Bc c).toList.map (·.dst)) (EJ m (D6 k (Bc c).toList)) [] a (fun τ' env d=>AG r os d (B3 env τ') (fun τ _=>Co fx lf τ (Q .normal))) τ)=v.q ⟨l,r,Q,b⟩:=by intro l r Q P;kernel_rfl):LO P n C c k τ Q:=
 gW co.ok o co.O co.F m v.a lf (fun r Φ=>v.q ⟨C.l,r,fun _=>Φ,fun _ _=>False⟩) (fun r Φ=>q _ r (fun _=>Φ) _) fun r e f h i=>v.ok _ (p r ⟨e,f,h,i⟩) y s j
theorem lI{fx:List Nat}(co:COx C os fx)(m:AL P T)(v:PT os β)(lf:Lf)(q:v.m=some y)(j:HL L y)(o:∀r (g:Gd C r),v.n ⟨⟨C.l,r,Q,fun _ _=>False⟩,L,C,_,co,g,rfl⟩)
  (p:∀l r Q b,AG r os v.a τ (fun τ a=>Do P T l n r ((Bc c).toList.map (·.dst)) (D6 k (Bc c).toList) [] a (fun τ' env d=>AG r os d (B3 env τ') (fun τ _=>Co fx lf τ (Q .normal))) τ)=v.q ⟨l,r,Q,b⟩:=by intro l r Q P;kernel_rfl):LO P n C c k τ Q:=
 jg co.ok m co.O co.F v.a lf (fun r Q=>v.q ⟨C.l,r,Q,fun _ _=>False⟩) (fun r Q=>p _ r Q _) fun r e f h i=>v.ok _ (o r ⟨e,f,h,i⟩) y q j
theorem jx{γ:Type}{M:Option γ}{kk:γ→Option β}{ss:List (Nat×AV)}{hs:List (Aa×Blk)}{fx:List Nat}(co:COx C os fx)(hm:M.bind kk=some y)(f:FuncId)(xs:List AV)(ks:List Aa)(d:List (Aa×Blk))(e:γ→AV)(a:γ→List (Aa×Blk))(fl:List Aa)
  (m:∀z,C9 C (a z)) (g:F5 (Ak hs) fl) (b:∀z,M=some z→∀r,Gd C r→EL P C.l r f xs d (e z) (a z) [])
  (h:∀z,kk z=some y→LO P n C c (k+1) (Ab (Eb (Dj c k) (e z) (Cn [] ss)) (a z++BN ((a z).map (·.1)) [] fl hs)) Q)
  (l:D2 c k=some (Dj c k,callF c k,D4 c k):=by kernel_rfl) (w:ev (As ss) (callF c k)=.fn (.func f) [] []:=by kernel_rfl) (o:[]++(D4 c k).map (ev (As ss))++[]=xs:=by kernel_rfl) (i:(ks.map fun k=>(k,Ak hs k))=d:=by kernel_rfl)
  (j:∀z,(B1 os (a z)&&HU [] (a z)&&HD [] fx&&EG hs&&HJ n (Dj c k)&&ks.all (AZ os))=true:=by intro z;kernel_rfl):LO P n C c k (Ab ss hs) Q:=by
 obtain⟨z,p,q⟩:=bind_some hm
 exact TB co.ok co.O co.F f [] [] xs l w o ks d i (e z) (a z) [] fl (j z) (m z) g (fun r s t u v=>b z p r ⟨s,t,u,v⟩) (h z q)
theorem s6 {f os os':Nat} {ys xs:List AV} {bi:List Blk} {γ:Type} {M:Option γ} {e:γ→AV} {bs:γ→List Blk} {z:γ} {x:AV} {r:Ren} (K:KO P f os ys bi (fun _ _ _ _=>True) M e bs) (hy:M=some z) {fx:List Nat} (co:COx C os' fx) (g:Gd C r) (a d:List (Aa×Blk)) (h:∀H,BE (rC C r a (As []) H) r 0 bi a:=by
   intro H
   repeat(first|exact trivial|refine⟨fun _=>⟨rfl,DB (CN _ _) (by kernel_rfl)⟩,by kernel_rfl,?_⟩|refine⟨fun _=>⟨rfl,DB FA (by kernel_rfl)⟩,by kernel_rfl,?_⟩|refine⟨fun _=>⟨rfl,by kernel_rfl⟩,by kernel_rfl,?_⟩))
  (i:bs z=bi:=by rfl) (c:bi.all Blk.live=true:=by kernel_rfl) (b:(a++d).all (fun p=>p.2.live)=true:=by kernel_rfl) (hx:∀H,Ae (rC C r a (As []) H) ys=Ae r xs:=by intro H;kernel_rfl) (j:∀H,ren (rC C r a (As []) H) (e z)=ren r x:=by intro H;kernel_rfl)
  (k:((a.map (·.1)).all (AZ os')&&D1 (a.map (·.1))&&Nat.beq a.length os)=true:=by kernel_rfl):D9 P C.l r f xs (a++d) x:=
 BG K hy co g a d (As []) (fun _ _ _=>trivial) h i c b hx j k
theorem c6{γ:Type}{M:Option γ}{kk:γ→Option β}{ss:List (Nat×AV)}{hs:List (Aa×Blk)}{f:FuncId}{os':Nat}{ys:List AV}{bi:List Blk}{Θ:Cl}{e0:γ→AV}{bs:γ→List Blk}{fx:List Nat}(co:COx C os fx)(hm:M.bind kk=some y)(K:KO P f os' ys bi Θ M e0 bs)
  (b d:List (Aa×Blk)) (e:γ→AV) (a:γ→List (Aa×Blk)) (fl:List Aa)
  (h:∀z,kk z=some y→LO P n C c (k+1) (Ab (Eb (Dj c k) (e z) (Cn [] ss)) (a z++BN ((a z).map (·.1)) [] fl hs)) Q)
  (θ:Ren→Nat→AV:=fun _=>As []) (hΘ:∀r,Gd C r→Th Θ C r b (b++d) (θ r):=by intro r g;exact fun _ _ _=>trivial) (xs:List AV:=[]++(D4 c k).map (ev (As ss))++[])
  (s:∀z,C9 C (a z):=by intro z;repeat(first|exact trivial|refine⟨COx.W ‹_› _ (by decide),?_⟩))
  (l:F5 (Ak hs) fl:=by repeat(first|exact trivial|refine⟨CN _ _,?_⟩))
  (j:∀r H,BE (rC C r b (θ r) H) r 0 bi b:=by
   intro r H
   repeat(first|exact trivial|refine⟨fun _=>⟨rfl,DB (CN _ _) (by kernel_rfl)⟩,by kernel_rfl,?_⟩|refine⟨fun _=>⟨rfl,DB FA (by kernel_rfl)⟩,by kernel_rfl,?_⟩|refine⟨fun _=>⟨rfl,by kernel_rfl⟩,by kernel_rfl,?_⟩|refine⟨(fun h=>nomatch h),by kernel_rfl,?_⟩))
  (i:∀z r H,BE (rC C r b (θ r) H) r 0 (bs z) (a z):=by
   intro z r H
   repeat(first|exact trivial|refine⟨fun _=>⟨rfl,DB (CN _ _) (by kernel_rfl)⟩,by kernel_rfl,?_⟩|refine⟨fun _=>⟨rfl,DB FA (by kernel_rfl)⟩,by kernel_rfl,?_⟩|refine⟨fun _=>⟨rfl,by kernel_rfl⟩,by kernel_rfl,?_⟩))
  (hx:∀r H,Ae (rC C r b (θ r) H) ys=Ae r xs:=by intro r H;kernel_rfl) (t:[]++(D4 c k).map (ev (As ss))++[]=xs:=by kernel_rfl) (u:∀z r H,ren (rC C r b (θ r) H) (e0 z)=ren r (e z):=by intro z r H;kernel_rfl)
  (q:D2 c k=some (Dj c k,callF c k,D4 c k):=by kernel_rfl) (v:ev (As ss) (callF c k)=.fn (.func f) [] []:=by kernel_rfl)
  (m:(((b++d).map (·.1)).map fun k=>(k,Ak hs k))=b++d:=by kernel_rfl) (o:∀z,(bs z).all Blk.live=true:=by intro z;kernel_rfl) (he:∀z,b.map (·.1)=(a z).map (·.1):=by intro z;rfl)
  (w:((b.map (·.1)).all (AZ os)&&D1 (b.map (·.1))&&Nat.beq b.length os')=true:=by kernel_rfl)
  (p:∀z,(B1 os (a z)&&HU [] (a z)&&HD [] fx&&EG hs&&HJ n (Dj c k)&&((b++d).map (·.1)).all (AZ os))=true:=by intro z;kernel_rfl):LO P n C c k (Ab ss hs) Q:=
 jx co hm f xs _ (b++d) e a fl s l (fun z x r g=>Dz K x co g b d (a z) (θ r) (hΘ r g) (fun H=>j r H) (fun H=>i z r H) (o z) (fun H=>hx r H) (fun H=>u z r H) w (he z)) h q v t m p
theorem kU{fx:List Nat}(co:COx C os fx)(v:PT os β)(lf:Lf)(k:v.m=some y)(h:HL L y)(i:∀r (g:Gd C r),v.n ⟨⟨C.l,r,fun _ τ'=>LW P n C c τ' Q,fun _ _=>False⟩,L,C,_,co,g,rfl⟩)
  (j:∀l r Q a,AG r os v.a τ (fun τ _=>Co fx lf τ (Q .normal))=v.q ⟨l,r,Q,a⟩:=by intro l r Q P;kernel_rfl):LW P n C c τ Q:=
 fK co.ok co.O co.F v.a lf (fun r Φ=>v.q ⟨C.l,r,fun _=>Φ,fun _ _=>False⟩) (fun r Φ=>j _ r (fun _=>Φ) _) fun r b d e f=>v.ok _ (i r ⟨b,d,e,f⟩) y k h
theorem rg{c:Code}(h:LO P n C c 0 τ Q)(hs:Wd c=true:=by kernel_rfl):LW P n C c τ Q:=cN hs h
end
end Go.Eng
