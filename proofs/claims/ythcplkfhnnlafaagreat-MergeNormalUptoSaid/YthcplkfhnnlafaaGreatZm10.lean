import Derived.Test.YthcplkfhnnlafaaGreatZm09
import Derived.Test.YthcplkfhnnlafaaGreatZm00
namespace Go.Eng
set_option linter.all false
open Go Go.RowKit
abbrev vL{α:Type}(e:α->List D)(xs:List α):AV:=.d (.list (xs.map e))
abbrev vS(s:ByteArray):AV:=.d (.str s)
abbrev vI(x:Int):AV:=.d (.int .i64 x)
abbrev vN(x:Nat):AV:=.d (.int .i64 (x:Int))
abbrev vB(x:Bool):AV:=.d (.bool x)
abbrev nl:Lf:=⟨[],[],[],[]⟩
abbrev pp(n:Nat):Nat×AV:=(n,.ptr (1,n) 0 0)
abbrev kk(d:Nat)(e:EK)(sz:Nat)(c:List AV):Ad×Blk:=((1,d),⟨0,true,e,sz,c⟩)
abbrev nG{α β:Type}:α->List β:=λ_=>[]
theorem nH{α:Type}{p:α->Prop}:∀x,p x->p x:=λ_ h=>h
abbrev cD(l:List D):List AV:=l.map .d
abbrev Ay(ls:List Nat):Lf:=⟨ls,[],[],[]⟩
abbrev Aa(ls:List Nat)(ks:List (Ad×Bool)):Lf:=⟨ls,ks,[],[]⟩
class Rw (α:Type) where
 e:α->List D
 f:α->List D
 z:α
 s:Nat
 len:∀x,(e x).length=s
 ef:∀x,e x=f x
 s0:s≠0
instance:Rw ByteArray:=⟨Bu,Bu,⟨#[]⟩,1,λ_=>rfl,λ_=>rfl,by decide⟩
instance:Rw Bool:=⟨AY,AY,false,1,λ_=>rfl,λ_=>rfl,by decide⟩
instance:Rw Raw:=⟨Aw,Aw,ZUm,4,λ_=>rfl,λ_=>rfl,by decide⟩
instance:Rw Val:=⟨AE,Ae,Ny,7,λ_=>by rw[Hj];rfl,Hj,by decide⟩
instance:Rw Pr:=⟨Ap,Dc,zPr,14,λ_=>by rw[Mw];rfl,Mw,by decide⟩
instance:Rw Slt:=⟨Am,Cc,ZST,8,λ_=>by rw[Mn];rfl,Mn,by decide⟩
instance:Rw Nt:=⟨Co,Co,zNt,8,λ_=>rfl,λ_=>rfl,by decide⟩
instance:Rw Fld:=⟨As,As,ZT3,16,λ_=>rfl,λ_=>rfl,by decide⟩
instance:Rw Spn:=⟨CZ,CZ,ZUs,2,λ_=>rfl,λ_=>rfl,by decide⟩
instance:Rw Msg:=⟨AH,AH,ZTU,5,λ_=>rfl,λ_=>rfl,by decide⟩
instance:Rw Itm:=⟨CW,CW,ZTw,3,λ_=>rfl,λ_=>rfl,by decide⟩
instance:Rw Enm:=⟨BN,BN,ZTN,5,λ_=>rfl,λ_=>rfl,by decide⟩
instance:Rw Mth:=⟨Ic,Ic,ZUi,5,λ_=>rfl,λ_=>rfl,by decide⟩
instance:Rw Svc:=⟨DM,DM,ZTV,3,λ_=>rfl,λ_=>rfl,by decide⟩
instance:Rw Prb:=⟨Ak,Ak,ZSU,3,λ_=>rfl,λ_=>rfl,by decide⟩
instance (α:Type) [Rw α]:Rw (List α):=⟨λx=>[.list (x.map Rw.e)],λx=>[.list (x.map Rw.e)],[],1,λ_=>rfl,λ_=>rfl,by decide⟩
inductive Lv (σ ξ ρ:Type) where
 |nx (v:σ)
 |ex (b:ξ)
 |rt (y:ρ)
structure En where
 l:Nat
 r:Ren
 Q:Exit->St->Prop
 P:AV->List Blk->Prop
structure Gd (C:Cx) (r:Ren):Prop where
 θ:r.θ=C.θ
 H:r.H0=C.H0
 κ:r.κ=C.κ
 no:r.no=C.no
structure COx (C:Cx) (os:Nat) (fx:List Nat):Prop where
 ok:CxOk C
 O:C.outs=os
 F:C.fx=fx
 W:∀q,q<os->C.no (C.κ (0,q))
abbrev CO(C:Cx)(os:Nat):Prop:=COx C os (Km os)
def HL{β:Type}(L:β->Prop)(y:β):Prop:=L y
structure Ev (os:Nat) (β:Type) where
 E:En
 L:β->Prop
 C:Cx
 fx:List Nat
 co:COx C os fx
 g:Gd C E.r
 hl:E.l=C.l
structure PT (os:Nat) (β:Type) where
 a:AT
 q:En->Prop
 m:Option β
 n:Ev os β->Prop
 ok:∀E:Ev os β,n E->∀y,m=some y->HL E.L y->q E.E
section
variable {os:Nat} {β:Type}
structure Sp where
 w:AT->AT
 p:En->Prop
 c:Prop
 d:Decidable c
 ok:c->∀E,p E
structure Sz where
 w:AT->AT
 p:En->Prop
 ok:∀E,p E
theorem BD{c:Prop}[d:Decidable c]{m:Option β}{y:β}(h:(if c then m else none)=some y):c/\m=some y:=by grind
theorem bind_some{γ:Type}{m:Option γ}{k:γ->Option β}{y:β}(h:m.bind k=some y):∃x,m=some x/\k x=some y:=by
 cases m with
 |none=>cases h
 |some x=>exact⟨x,rfl,h⟩
@[reducible] def vs(s:Sp)(k:PT os β):PT os β:=⟨s.w k.a,λE=>s.p E/\k.q E,@ite _ s.c s.d k.m none,k.n,λE d y hm c=>by obtain⟨a,b⟩:=@BD _ _ s.d _ _ hm;exact⟨s.ok a E.E,k.ok E d y b c⟩⟩
@[reducible] def vg(b:Bool)(s:Sp)(k:PT os β):PT os β:=⟨s.w k.a,λE=>(b=true->s.p E)/\k.q E,@ite _ (b=true->s.c) (@instDecidableForall _ _ _ s.d) k.m none,k.n,λE f y hm d=>by obtain⟨a,c⟩:=@BD _ _ (@instDecidableForall _ _ _ s.d) _ _ hm;exact⟨λe=>s.ok (a e) E.E,k.ok E f y c d⟩⟩
@[reducible] def vz(s:Sz)(k:PT os β):PT os β:=⟨s.w k.a,λE=>s.p E/\k.q E,k.m,k.n,λE b y hm a=>⟨s.ok E.E,k.ok E b y hm a⟩⟩
@[reducible] def vy(b:Bool)(s:Sz)(k:PT os β):PT os β:=⟨s.w k.a,λE=>(b=true->s.p E)/\k.q E,k.m,k.n,λE c y hm a=>⟨λ_=>s.ok E.E,k.ok E c y hm a⟩⟩
@[reducible] def v2(s:Sp)(b c:En->Prop)(h:s.c->∀E,b E/\c E)(k:PT os β):PT os β:=⟨s.w k.a,λE=>b E/\c E/\k.q E,@ite _ s.c s.d k.m none,k.n,λE f y hm e=>by obtain⟨a,d⟩:=@BD _ _ s.d _ _ hm;exact⟨(h a E.E).1,(h a E.E).2,k.ok E f y d e⟩⟩
@[reducible] def vw(w:AT->AT)(k:PT os β):PT os β:=⟨w k.a,k.q,k.m,k.n,k.ok⟩
@[reducible] def wg(k:PT os β):PT os β:=⟨.go k.a,k.q,k.m,k.n,k.ok⟩
@[reducible] def br(b:Bool)(t f:PT os β):PT os β:=⟨.br t.a f.a,λE=>(b=true->t.q E)/\(b=false->f.q E),if b=true then t.m else f.m,λE=>t.n E/\f.n E,λE c y hm a=>
 ⟨λe=>t.ok E c.1 y (by rw[Yi e]at hm;exact hm) a,λe=>f.ok E c.2 y (by rw[Yh (by rw[e];decide)]at hm;exact hm) a⟩⟩
@[reducible] def bT(b:Bool)(t:PT os β):PT os β:=⟨.one true t.a,λE=>(b=true->t.q E)/\(b=false->False),if b=true then t.m else none,t.n,λE c y hm a=>by obtain⟨h,hm⟩:=BD hm;exact⟨λ_=>t.ok E c y hm a,λe=>absurd (h.symm.trans e) (by decide)⟩⟩
@[reducible] def al{α:Type}(e:α->List D)(xs:List α)(neg:Bool)(k:Bool->PT os β):PT os β:=⟨(k neg).a,λE=>∀b:Bool,(xs.map e≠[]->b=neg)->(k b).q E,(k neg).m,
 λE=>(∀b,(k b).n E)/\∀b,xs=[]->(k b).m=(k neg).m,λE a y hm c b f=>by
  by_cases h:xs=[]
  ·exact(k b).ok E (a.1 b) y ((a.2 b h).trans hm) c
  ·have:b=neg:=f (by intro d;exact h (List.map_eq_nil_iff.1 d));subst this;exact(k b).ok E (a.1 b) y hm c⟩
@[reducible] def dd:PT os β:=⟨.nil,λ_=>False,none,λ_=>True,λ_ _ _ h _=>by cases h⟩
@[reducible] def lf(p:En->Prop)(y:β):PT os β:=⟨.nil,p,some y,λE=>HL E.L y->p E.E,λE b z hm a=>b (by cases hm;exact a)⟩
@[reducible] def lc(s:St)(m:Option β):PT os β:=⟨.nil,λE=>E.Q .normal s,m,λE=>∀y,m=some y->HL E.L y->E.E.Q .normal s,λE b y hm a=>b y hm a⟩
@[reducible] def EW(c:Prop)[Decidable c](p:En->Prop)(y:β):PT os β:=⟨.nil,p,if c then some y else none,λE=>c->HL E.L y->p E.E,λE d z hm b=>by obtain⟨a,hm⟩:=BD hm;cases hm;exact d a b⟩
@[reducible] def lr(er:β->AV)(bs:β->List Blk)(y:β):PT os β:=lf (λE=>E.P (er y) (bs y)) y
section
variable {σ ξ ρ:Type}
@[reducible] def Ar(er:ρ->AV)(bs:ρ->List Blk)(y:ρ):PT os (Lv σ ξ ρ):=lf (λE=>E.P (er y) (bs y)) (.rt y)
@[reducible] def ln(S:σ->St)(v:σ):PT os (Lv σ ξ ρ):=lf (λE=>E.Q .normal (S v)) (.nx v)
@[reducible] def Af(X:ξ->Nat×St)(b:ξ):PT os (Lv σ ξ ρ):=lf (λE=>E.Q (.exit (X b).1) (X b).2) (.ex b)
end
section
variable {α:Type} [Rw α]
@[reducible] def ix(xs:List α)(i:Nat)(k:α->PT os β):PT os β:=
 ⟨.ds (Rw.f (xs.getD i Rw.z)) (k (xs.getD i Rw.z)).a,λE=>Kq (xs.map Rw.e) ((i:Nat):Int) (Rw.f (xs.getD i Rw.z))/\(k (xs.getD i Rw.z)).q E,xs[i]?.bind λx=>(k x).m,λE=>∀x,(k x).n E,λE d y hm c=>by
  obtain⟨x,a,b⟩:=bind_some hm;have e:xs.getD i Rw.z=x:=by rw[Yj,a];rfl
  rw[e];exact⟨x3 a Rw.ef,(k x).ok E (d x) y b c⟩⟩
@[reducible] def CB(xs:List α)(i:Int)(k:α->PT os β):PT os β:=
 ⟨.ds (Rw.f (xs.getD i.toNat Rw.z)) (k (xs.getD i.toNat Rw.z)).a,λE=>Kq (xs.map Rw.e) i (Rw.f (xs.getD i.toNat Rw.z))/\(k (xs.getD i.toNat Rw.z)).q E,if 0<=i then xs[i.toNat]?.bind λx=>(k x).m else none,λE=>∀x,(k x).n E,λE g y hm d=>by
  obtain⟨b,hm⟩:=BD hm;obtain⟨x,a,c⟩:=bind_some hm;have e:xs.getD i.toNat Rw.z=x:=by rw[Yj,a];rfl
  have f:=(Yb.1 a).1;exact⟨xH b ae Rw.ef,by rw[e];exact(k x).ok E (g x) y c d⟩⟩
@[reducible] def AZ(b:Bool)(xs:List α)(i:Int)(k:α->PT os β):PT os β:=
 ⟨.ds (Rw.f (xs.getD i.toNat Rw.z)) (k (xs.getD i.toNat Rw.z)).a,λE=>(b=true->Kq (xs.map Rw.e) i (Rw.f (xs.getD i.toNat Rw.z)))/\(k (xs.getD i.toNat Rw.z)).q E,if(b=true->0<=i/\i<xs.length)then(k (xs.getD i.toNat Rw.z)).m else none,λE=>∀x,(k x).n E,λE d y hm c=>by obtain⟨a,hm⟩:=BD hm;exact⟨λe=>xH (a e).1 (a e).2 Rw.ef,(k _).ok E (d _) y hm c⟩⟩
@[reducible] def ca(xs:List α)(j:Nat)(k:α->PT os β):PT os β:=
 ⟨.cs ((Rw.f (xs.getD j Rw.z)).map .d) (k (xs.getD j Rw.z)).a,λE=>Er (Ab Rw.e xs) (j*Rw.s α) ((Rw.f (xs.getD j Rw.z)).map .d)/\(k (xs.getD j Rw.z)).q E,xs[j]?.bind λx=>(k x).m,λE=>∀x,(k x).n E,λE d y hm c=>by
  obtain⟨x,a,b⟩:=bind_some hm;have e:xs.getD j Rw.z=x:=by rw[Yj,a];rfl
  rw[e];exact⟨ZqG a Rw.len Rw.ef,(k x).ok E (d x) y b c⟩⟩
theorem rl{xs:List α}{j o m:Nat}(a:Nat.ble (o+m) (Rw.s α)=true)(h:j<xs.length):Er (Ab Rw.e xs) (j*Rw.s α+o) ((((Rw.f (xs.getD j Rw.z)).map AV.d).drop o).take m):=by
 have hl:((Rw.f (xs.getD j Rw.z)).map AV.d).length=Rw.s α:=by rw[YF,<-Rw.ef,Rw.len]
 have a:=Ym a;exact Zng h Rw.len Rw.ef (by rw[Yz,DS,hl,Gc ae]) (by rw[Yz,DS,hl];omega)
@[reducible] def cp(xs:List α)(j o m:Nat)(k:α->PT os β)(f:Nat.ble (o+m) (Rw.s α)=true:=by kernel_rfl):PT os β:=
 ⟨.cs ((((Rw.f (xs.getD j Rw.z)).map AV.d).drop o).take m) (k (xs.getD j Rw.z)).a,λE=>Er (Ab Rw.e xs) (j*Rw.s α+o) ((((Rw.f (xs.getD j Rw.z)).map AV.d).drop o).take m)/\(k (xs.getD j Rw.z)).q E,xs[j]?.bind λx=>(k x).m,λE=>∀x,(k x).n E,λE d y hm c=>by
  obtain⟨x,a,b⟩:=bind_some hm;have e:xs.getD j Rw.z=x:=by rw[Yj,a];rfl
  exact⟨rl f (Yb.1 a).1,by rw[e];exact(k x).ok E (d x) y b c⟩⟩
@[reducible] def F4(b:Bool)(xs:List α)(j:Nat)(k:α->PT os β):PT os β:=
 ⟨.cs ((Rw.f (xs.getD j Rw.z)).map .d) (k (xs.getD j Rw.z)).a,λE=>(b=true->Er (Ab Rw.e xs) (j*Rw.s α) ((Rw.f (xs.getD j Rw.z)).map .d))/\(k (xs.getD j Rw.z)).q E,if(b=true->j<xs.length)then(k (xs.getD j Rw.z)).m else none,λE=>∀x,(k x).n E,λE d y hm c=>by obtain⟨a,hm⟩:=BD hm;exact⟨λe=>vR (a e) Rw.len Rw.ef,(k _).ok E (d _) y hm c⟩⟩
@[reducible] def zI(b:Bool)(xs:List α)(j o m:Nat)(k:α->PT os β)(f:Nat.ble (o+m) (Rw.s α)=true:=by kernel_rfl):PT os β:=
 ⟨.cs ((((Rw.f (xs.getD j Rw.z)).map AV.d).drop o).take m) (k (xs.getD j Rw.z)).a,λE=>(b=true->Er (Ab Rw.e xs) (j*Rw.s α+o) ((((Rw.f (xs.getD j Rw.z)).map AV.d).drop o).take m))/\(k (xs.getD j Rw.z)).q E,if(b=true->j<xs.length)then(k (xs.getD j Rw.z)).m else none,λE=>∀x,(k x).n E,λE d y hm c=>by obtain⟨a,hm⟩:=BD hm;exact⟨λe=>rl f (a e),(k _).ok E (d _) y hm c⟩⟩
@[reducible] def st(xs:List α)(j:Nat)(y:α):Sp:=⟨.cs (Ab Rw.e (xs.set j y)),λ_=>Ix (Ab Rw.e xs) (j*Rw.s α) ((Rw.f y).map .d) (Ab Rw.e (xs.set j y)),j<xs.length,inferInstance,λh _=>Zwz h Rw.len Rw.ef⟩
@[reducible] def Ah(xs:List α):Sz:=⟨.num ((xs.length:Nat):Int),λ_=>BQ ((xs.map (Rw.e (α:=α))).length:Nat) ((xs.length:Nat):Int),λ_=>ZFo _ _⟩
@[reducible] def fl(xs:List α):Sz:=⟨id,λ_=>Jc (Ab Rw.e xs),λ_=>FI _ _⟩
@[reducible] def fz(xs:List α):Sz:=⟨id,λ_=>Iw (Ab Rw.e xs) 0 xs.length (Rw.s α) (xs.map Rw.e),λ_=>iO _ Rw.s0 Rw.len⟩
@[reducible] def fr(xs:List α):Sz:=⟨.av (.d (.list (xs.map Rw.e))),λ_=>Iw (Ab Rw.e xs) 0 xs.length (Rw.s α) (xs.map Rw.e),λ_=>iO _ Rw.s0 Rw.len⟩
@[reducible] def ap(xs:List α)(y:α)(k:PT os β):PT os β:=⟨.nat 1 (.cs (Ab Rw.e [y]) (.cs (Ab Rw.e (xs++[y])) (.nat (xs++[y]).length k.a))),
 λE=>Ey (Rw.s α) [] (.d (.list [Rw.f y])) 1 (Ab Rw.e [y])/\Kp (Ab Rw.e xs) 0 xs.length 1 (Rw.s α) 256 (Ab Rw.e [y]) (Ab Rw.e (xs++[y])) (xs++[y]).length/\k.q E,
 if xs.length<549755813887 then k.m else none,k.n,λE b z hm a=>by obtain⟨c,hm⟩:=BD hm;exact⟨wL _ Rw.len Rw.ef,Rc xs [y] Rw.len rfl rfl (by rw[J3];omega),k.ok E b z hm a⟩⟩
@[reducible] def aq(xs ys:List α)(k:PT os β):PT os β:=⟨.nat ys.length (.cs (Ab Rw.e ys) (.cs (Ab Rw.e (xs++ys)) (.nat (xs++ys).length k.a))),
 λE=>Ey (Rw.s α) [] (.d (.list (ys.map Rw.e))) ys.length (Ab Rw.e ys)/\Kp (Ab Rw.e xs) 0 xs.length ys.length (Rw.s α) 256 (Ab Rw.e ys) (Ab Rw.e (xs++ys)) (xs++ys).length/\k.q E,
 if xs.length+ys.length<549755813888 then k.m else none,k.n,λE b z hm a=>by obtain⟨c,hm⟩:=BD hm;exact⟨Rb _ _ Rw.len,Rc xs ys Rw.len rfl rfl ae,k.ok E b z hm a⟩⟩
@[reducible] def jR(x:α)(ys:List α)(k:PT os β):PT os β:=⟨.nat ys.length (.cs (Ab Rw.e ys) (.cs (Ab Rw.e ([x]++ys)) (.nat ([x]++ys).length k.a))),
 λE=>Ey (Rw.s α) [] (.d (.list (ys.map Rw.e))) ys.length (Ab Rw.e ys)/\Kp ((Rw.f x).map .d) 0 1 ys.length (Rw.s α) 256 (Ab Rw.e ys) (Ab Rw.e ([x]++ys)) ([x]++ys).length/\k.q E,
 if ys.length<549755813887 then k.m else none,k.n,λE b z hm a=>by
  obtain⟨c,hm⟩:=BD hm;have e:(Rw.f x).map AV.d=Ab Rw.e [x]:=by rw[<-Rw.ef x];simp[Ab]
  rw[e];exact⟨Rb _ _ Rw.len,Rc [x] ys Rw.len rfl rfl (by rw[J3];omega),k.ok E b z hm a⟩⟩
@[reducible] def ar(xs ys:List α)(kk:Ad)(g:Nat)(k:PT os β):PT os β:=⟨.nat ys.length (.cs (Ab Rw.e ys) (.cs (Ab Rw.e (xs++ys)) (.nat (xs++ys).length k.a))),
 λE=>Ey (Rw.s α) (Ab Rw.e ys) (.ref kk g 0 ys.length) ys.length (Ab Rw.e ys)/\Kp (Ab Rw.e xs) 0 xs.length ys.length (Rw.s α) 256 (Ab Rw.e ys) (Ab Rw.e (xs++ys)) (xs++ys).length/\k.q E,
 if xs.length+ys.length<549755813888 then k.m else none,k.n,λE b z hm a=>by obtain⟨c,hm⟩:=BD hm;exact⟨ZyV _ _ _ Rw.len,Rc xs ys Rw.len rfl rfl ae,k.ok E b z hm a⟩⟩
@[reducible] def a1(y:α)(k:PT os β):PT os β:=⟨.nat 1 (.cs (Ab Rw.e [y]) k.a),λE=>Ey (Rw.s α) [] (.d (.list [Rw.f y])) 1 (Ab Rw.e [y])/\Qs 1 256/\k.q E,k.m,k.n,λE b z hm a=>⟨wL _ Rw.len Rw.ef,by unfold Qs;decide,k.ok E b z hm a⟩⟩
@[reducible] def a0(ys:List α)(k:PT os β):PT os β:=⟨.nat ys.length (.cs (Ab Rw.e ys) k.a),λE=>Ey (Rw.s α) [] (.d (.list (ys.map Rw.e))) ys.length (Ab Rw.e ys)/\Qs ys.length 256/\k.q E,if ys.length<549755813888 then k.m else none,k.n,λE b z hm a=>by obtain⟨c,hm⟩:=BD hm;exact⟨Rb _ _ Rw.len,by unfold Qs;omega,k.ok E b z hm a⟩⟩
@[reducible] def jQ(xs:List α)(y z:α)(k:PT os β):PT os β:=⟨.nat 2 (.cs (Ab Rw.e [y,z]) (.cs (Ab Rw.e (xs++[y,z])) (.nat (xs++[y,z]).length k.a))),
 λE=>Ey (Rw.s α) [] (.d (.list [Rw.f y,Rw.f z])) 2 (Ab Rw.e [y,z])/\Kp (Ab Rw.e xs) 0 xs.length 2 (Rw.s α) 256 (Ab Rw.e [y,z]) (Ab Rw.e (xs++[y,z])) (xs++[y,z]).length/\k.q E,
 if xs.length<549755813886 then k.m else none,k.n,λE b w hm a=>by obtain⟨c,hm⟩:=BD hm;refine⟨?_,Rc xs [y,z] Rw.len rfl rfl (by simp only[Em,HP];omega),k.ok E b w hm a⟩;have:=Rb (sz:=Rw.s α) (e:=Rw.e) ([]:List AV) [y,z] Rw.len;rw[<-Rw.ef,<-Rw.ef];exact this⟩
@[reducible] def ms(m:Nat)(z:α)(a:List AV)(d:(Rw.e z).map .d=a)(k:PT os β):PT os β:=⟨.nat (List.replicate m z).length (.cs (Ab Rw.e (List.replicate m z)) k.a),
 λE=>ah ((m:Nat):Int) ((m:Nat):Int) 256 (List.replicate m z).length a (Ab Rw.e (List.replicate m z))/\k.q E,if m<=549755813888 then k.m else none,k.n,λE c y hm b=>by obtain⟨e,hm⟩:=BD hm;exact⟨⟨by rw[lD],TZ _,ae,by rw[lD];exact ZFM d m⟩,k.ok E c y hm b⟩⟩
@[reducible] def zY(m:Nat)(a:List AV)(k:PT os β):PT os β:=⟨.nat m (.cs (List.replicate m a).flatten k.a),
 λE=>ah ((m:Nat):Int) ((m:Nat):Int) 256 m a (List.replicate m a).flatten/\k.q E,if m<=549755813888 then k.m else none,k.n,λE c y hm b=>by obtain⟨d,hm⟩:=BD hm;exact⟨⟨rfl,TZ _,ae,rfl⟩,k.ok E c y hm b⟩⟩
@[reducible] def zJ(n m:Nat)(a:List AV)(ys:List α)(h:a.length=Rw.s α)(k:PT os β):PT os β:=⟨.nat ys.length (.cs (Ab Rw.e ys) (.cs (Ab Rw.e ys) k.a)),
 λE=>Ey (Rw.s α) [] (.d (.list (ys.map Rw.e))) ys.length (Ab Rw.e ys)/\ys.length<=n/\Ix (List.replicate m a).flatten (0*Rw.s α) (Ab Rw.e ys) (Ab Rw.e ys)/\k.q E,if ys.length<=n/\m=ys.length then k.m else none,k.n,λE g y hm f=>by
  obtain⟨⟨d,e⟩,hm⟩:=BD hm;have b:(List.replicate m a).flatten.length=ys.length*Rw.s α:=by rw[<-e,<-h];simp[List.length_flatten]
  have c:=Gs Rw.len ys;refine⟨Rb _ _ Rw.len,d,⟨by rw[b,c];omega,?_⟩,k.ok E g y hm f⟩;rw[LD,List.take_zero,Ge,YU,aA (by rw[b,c];exact Yf _),Iy]⟩
@[reducible] def rn(j d n:Nat)(xs:List α)(k:PT os β):PT os β:=⟨.reb j d xs.length (Ab Rw.e xs) k.a,
 λE=>(n=xs.length/\0*Rw.s α<=(Ab (Rw.e (α:=α)) xs).length/\(Ab Rw.e xs).drop (0*Rw.s α)=Ab Rw.e xs)/\k.q E,if n=xs.length then k.m else none,k.n,λE c y hm b=>by obtain⟨a,hm⟩:=BD hm;exact⟨⟨a,by rw[LD];exact B8 _,by rw[LD];rfl⟩,k.ok E c y hm b⟩⟩
@[reducible] def EC(n:Nat)(xs:List α):Sp:=⟨.av (.d (.list (xs.map Rw.e))),λ_=>Iw (Ab Rw.e xs) 0 n (Rw.s α) (xs.map Rw.e),n=xs.length,inferInstance,λh _=>ZFb h (iO _ Rw.s0 Rw.len)⟩
@[reducible] def EE(xs:List α)(j a:Nat)(vs:List D)(Y:α->α)(he:∀x,Rw.e (Y x)=(Rw.e x).take a++vs++(Rw.e x).drop (a+vs.length))(k:List α->PT os β)(f:Nat.ble (a+vs.length) (Rw.s α)=true:=by kernel_rfl):PT os β:=
 ⟨.cs (Ab Rw.e (xs.set j (Y (xs.getD j Rw.z)))) (k (xs.set j (Y (xs.getD j Rw.z)))).a,λE=>Ix (Ab Rw.e xs) (j*Rw.s α+a) (vs.map .d) (Ab Rw.e (xs.set j (Y (xs.getD j Rw.z))))/\(k (xs.set j (Y (xs.getD j Rw.z)))).q E,xs[j]?.bind λx=>(k (xs.set j (Y x))).m,λE=>∀l,(k l).n E,λE g y hm d=>by
  obtain⟨x,b,c⟩:=bind_some hm;have e:xs.getD j Rw.z=x:=by rw[Yj,b];rfl
  exact⟨ZwO (Yb.1 b).1 Rw.len (Ym f) (he _),by rw[e];exact(k _).ok E (g _) y c d⟩⟩
@[reducible] def rb(j d n:Nat)(xs:List α)(off:Nat)(k:PT os β):PT os β:=⟨.reb j d (xs.drop off).length (Ab Rw.e (xs.drop off)) k.a,
 λE=>(n=(xs.drop off).length/\off*Rw.s α<=(Ab (Rw.e (α:=α)) xs).length/\(Ab Rw.e xs).drop (off*Rw.s α)=Ab Rw.e (xs.drop off))/\k.q E,if n=(xs.drop off).length/\off<=xs.length then k.m else none,k.n,λE c y hm b=>by obtain⟨a,hm⟩:=BD hm;exact⟨ZGA a.1 a.2 Rw.len,k.ok E c y hm b⟩⟩
end
@[reducible] def B3(q:Nat)(vs:List AV)(low:∀r:Ren,GN r (0,q) vs)(k:PT os β)(c:Nat.ble (q+1) os=true:=by kernel_rfl):PT os β:=
 ⟨k.a,λE=>M8 E.r (0,q)/\GN E.r (0,q) vs/\k.q E,k.m,k.n,λE b y hm a=>⟨⟨rfl,by rw[E.g.no,E.g.κ];exact E.co.W q (Ym c)⟩,low _,k.ok E b y hm a⟩⟩
inductive Bd
 |no
 |nt (n:Nat)
 |it (x:Int)
def Bd.ov:Bd->Option AV
 |.no=>none
 |.nt n=>some (.d (.int .i64 (n:Int)))
 |.it x=>some (.d (.int .i64 x))
def Bd.vl(d:Nat):Bd->Nat
 |.no=>d
 |.nt n=>n
 |.it x=>x.toNat
def Bd.c:Bd->Prop
 |.it x=>0<=x
 |_=>True
instance (b:Bd):Decidable b.c:=by cases b<;>unfold Bd.c<;>infer_instance
theorem Bd.ok{d:Nat}{b:Bd}(h:b.c):Dy d b.ov (b.vl d):=by
 cases b with
 |no=>rfl
 |nt n=>rfl
 |it x=>exact(Int.toNat_of_nonneg h).symm
@[reducible] def ss(s:ByteArray)(lo hi:Bd)(k:ByteArray->PT os β):PT os β:=
 ⟨.nat (lo.vl 0) (.nat (hi.vl s.size) (k (s.extract (lo.vl 0) (hi.vl s.size))).a),λE=>Dy 0 lo.ov (lo.vl 0)/\Dy s.size hi.ov (hi.vl s.size)/\FD (lo.vl 0) (hi.vl s.size) s.size/\(k (s.extract (lo.vl 0) (hi.vl s.size))).q E,
 if lo.c/\hi.c/\lo.vl 0<=hi.vl s.size/\hi.vl s.size<=s.size then(k (s.extract (lo.vl 0) (hi.vl s.size))).m else none,λE=>∀x,(k x).n E,λE c y hm b=>by obtain⟨a,hm⟩:=BD hm;exact⟨Bd.ok a.1,Bd.ok a.2.1,a.2.2,(k _).ok E (c _) y hm b⟩⟩
@[reducible] def ssg(b:Bool)(s:ByteArray)(lo hi:Bd)(k:ByteArray->PT os β):PT os β:=
 ⟨.nat (lo.vl 0) (.nat (hi.vl s.size) (k (s.extract (lo.vl 0) (hi.vl s.size))).a),λE=>(b=true->Dy 0 lo.ov (lo.vl 0))/\(b=true->Dy s.size hi.ov (hi.vl s.size))/\(b=true->FD (lo.vl 0) (hi.vl s.size) s.size)/\(k (s.extract (lo.vl 0) (hi.vl s.size))).q E,
 if(b=true->lo.c/\hi.c/\lo.vl 0<=hi.vl s.size/\hi.vl s.size<=s.size)then(k (s.extract (lo.vl 0) (hi.vl s.size))).m else none,λE=>∀x,(k x).n E,λE d y hm c=>by obtain⟨a,hm⟩:=BD hm;exact⟨λe=>Bd.ok (a e).1,λe=>Bd.ok (a e).2.1,λe=>(a e).2.2,(k _).ok E (d _) y hm c⟩⟩
section
variable {α:Type} [Rw α]
@[reducible] def sL(xs:List α)(lo hi:Bd)(k:List α->PT os β):PT os β:=
 ⟨.nat (lo.vl 0) (.nat (hi.vl xs.length) (.av (.d (.list (((xs.drop (lo.vl 0)).take (hi.vl xs.length-lo.vl 0)).map Rw.e))) (k ((xs.drop (lo.vl 0)).take (hi.vl xs.length-lo.vl 0))).a)),
 λE=>Dy 0 lo.ov (lo.vl 0)/\Dy (xs.map (Rw.e (α:=α))).length hi.ov (hi.vl xs.length)/\FD (lo.vl 0) (hi.vl xs.length) (xs.map (Rw.e (α:=α))).length/\PG (xs.map Rw.e) (Rw.s α) (lo.vl 0) (hi.vl xs.length) (((xs.drop (lo.vl 0)).take (hi.vl xs.length-lo.vl 0)).map Rw.e)/\(k ((xs.drop (lo.vl 0)).take (hi.vl xs.length-lo.vl 0))).q E,
 if lo.c/\hi.c/\lo.vl 0<=hi.vl xs.length/\hi.vl xs.length<=xs.length then(k ((xs.drop (lo.vl 0)).take (hi.vl xs.length-lo.vl 0))).m else none,λE=>∀x,(k x).n E,λE c y hm b=>by obtain⟨a,hm⟩:=BD hm;exact⟨Bd.ok a.1,by rw[YF];exact Bd.ok a.2.1,zb a.2.2,yy Rw.len,(k _).ok E (c _) y hm b⟩⟩
@[reducible] def sLg(b:Bool)(xs:List α)(lo hi:Bd)(k:List α->PT os β):PT os β:=
 ⟨.nat (lo.vl 0) (.nat (hi.vl xs.length) (.av (.d (.list (((xs.drop (lo.vl 0)).take (hi.vl xs.length-lo.vl 0)).map Rw.e))) (k ((xs.drop (lo.vl 0)).take (hi.vl xs.length-lo.vl 0))).a)),
 λE=>(b=true->Dy 0 lo.ov (lo.vl 0))/\(b=true->Dy (xs.map (Rw.e (α:=α))).length hi.ov (hi.vl xs.length))/\(b=true->FD (lo.vl 0) (hi.vl xs.length) (xs.map (Rw.e (α:=α))).length)/\(b=true->PG (xs.map Rw.e) (Rw.s α) (lo.vl 0) (hi.vl xs.length) (((xs.drop (lo.vl 0)).take (hi.vl xs.length-lo.vl 0)).map Rw.e))/\(k ((xs.drop (lo.vl 0)).take (hi.vl xs.length-lo.vl 0))).q E,
 if(b=true->lo.c/\hi.c/\lo.vl 0<=hi.vl xs.length/\hi.vl xs.length<=xs.length)then(k ((xs.drop (lo.vl 0)).take (hi.vl xs.length-lo.vl 0))).m else none,λE=>∀x,(k x).n E,λE d y hm c=>by obtain⟨a,hm⟩:=BD hm;exact⟨λe=>Bd.ok (a e).1,λe=>by rw[YF];exact Bd.ok (a e).2.1,λe=>zb (a e).2.2,λ_=>yy Rw.len,(k _).ok E (d _) y hm c⟩⟩
end
@[reducible] def sR(len off:Nat)(lo hi:Bd)(k:PT os β):PT os β:=
 ⟨.nat (lo.vl 0) (.nat (hi.vl len) (.nat (off+lo.vl 0) (.nat (hi.vl len-lo.vl 0) k.a))),λE=>Dy 0 lo.ov (lo.vl 0)/\Dy len hi.ov (hi.vl len)/\FD (lo.vl 0) (hi.vl len) len/\ai off (lo.vl 0) (hi.vl len) (off+lo.vl 0) (hi.vl len-lo.vl 0)/\k.q E,
 if lo.c/\hi.c/\lo.vl 0<=hi.vl len/\hi.vl len<=len then k.m else none,k.n,λE c y hm b=>by obtain⟨a,hm⟩:=BD hm;exact⟨Bd.ok a.1,Bd.ok a.2.1,a.2.2,⟨rfl,rfl⟩,k.ok E c y hm b⟩⟩
@[reducible] def A3(n:Nat):Sz:=⟨.num ((n:Nat):Int),λ_=>BQ ((n:Nat):Int) ((n:Nat):Int),λ_=>rfl⟩
@[reducible] def wa(a b:Nat):Sp:=⟨.num ((a+b:Nat):Int),λ_=>CQ .i64 (((a:Nat):Int)+((b:Nat):Int)) ((a+b:Nat):Int),a+b<9223372036854775808,inferInstance,λh _=>jd ae ae ae⟩
@[reducible] def wm(a b:Nat):Sp:=⟨.num ((a*b:Nat):Int),λ_=>CQ .i64 (((a:Nat):Int)*((b:Nat):Int)) ((a*b:Nat):Int),a*b<9223372036854775808,inferInstance,λh _=>jd (by simp) ae ae⟩
@[reducible] def wi(x:Int):Sp:=⟨.num x,λ_=>CQ .i64 x x,-9223372036854775808<=x/\x<9223372036854775808,inferInstance,λh _=>jd rfl h.1 h.2⟩
@[reducible] def wk(i:IntKind)(x:Int):Sz:=⟨.num (i.wrap x),λ_=>CQ i x (i.wrap x),λ_=>rfl⟩
@[reducible] def ir(i len sz:Nat):Sp:=⟨.nat (i*sz),λ_=>ND ((i:Nat):Int) len 0 sz (i*sz),i<len,inferInstance,λh _=>ZPp h⟩
@[reducible] def AD(i:Int)(len sz:Nat):Sp:=⟨.nat (i.toNat*sz),λ_=>ND i len 0 sz (i.toNat*sz),0<=i/\i<len,inferInstance,λh _=>ZvF h.1 h.2⟩
@[reducible] def ib(s:ByteArray)(i:Nat)(k:UInt8->PT os β):PT os β:=
 ⟨.num ((s.data.toList.getD i 0).toNat:Nat) (k (s.data.toList.getD i 0)).a,λE=>Kg s (i:Nat) ((s.data.toList.getD i 0).toNat:Nat)/\(k (s.data.toList.getD i 0)).q E,s.data.toList[i]?.bind λx=>(k x).m,λE=>∀x,(k x).n E,λE f y hm d=>by
  obtain⟨x,b,c⟩:=bind_some hm;have e:s.data.toList.getD i 0=x:=by rw[Yj,b];rfl
  have a:=(Yb.1 b).1;exact⟨yX (by simpa using a),by rw[e];exact(k x).ok E (f x) y c d⟩⟩
@[reducible] def GY(b:Bool)(s:ByteArray)(i:Int)(k:UInt8->PT os β):PT os β:=
 ⟨.num ((s.data.toList.getD i.toNat 0).toNat:Nat) (k (s.data.toList.getD i.toNat 0)).a,λE=>(b=true->Kg s i ((s.data.toList.getD i.toNat 0).toNat:Nat))/\(k (s.data.toList.getD i.toNat 0)).q E,if(b=true->0<=i/\i<s.size)then(k (s.data.toList.getD i.toNat 0)).m else none,λE=>∀x,(k x).n E,λE d y hm c=>by obtain⟨a,hm⟩:=BD hm;exact⟨λe=>wZ (a e).1 (a e).2,(k _).ok E (d _) y hm c⟩⟩
@[reducible] def S1(s:ByteArray)(i:Int)(k:UInt8->PT os β):PT os β:=
 ⟨.num ((s.data.toList.getD i.toNat 0).toNat:Nat) (k (s.data.toList.getD i.toNat 0)).a,λE=>Kg s i ((s.data.toList.getD i.toNat 0).toNat:Nat)/\(k (s.data.toList.getD i.toNat 0)).q E,if 0<=i/\i<s.size then(k (s.data.toList.getD i.toNat 0)).m else none,λE=>∀x,(k x).n E,λE c y hm b=>by obtain⟨a,hm⟩:=BD hm;exact⟨wZ a.1 a.2,(k _).ok E (c _) y hm b⟩⟩
@[reducible] def ad(a b:ByteArray)(k:ByteArray->PT os β):PT os β:=⟨(k (a++b)).a,λE=>s4 a b/\(k (a++b)).q E,if a.size+b.size<=9223372036854775807 then(k (a++b)).m else none,λE=>∀x,(k x).n E,λE e y hm d=>by obtain⟨c,hm⟩:=BD hm;exact⟨c,(k _).ok E (e _) y hm d⟩⟩
@[reducible] def ki(k:IntKind)(x y:Int):Sz:=⟨.num (DK k x y),λ_=>BQ (DK k x y) (DK k x y),λ_=>rfl⟩
@[reducible] def wor(k:IntKind)(x y:Int):Sz:=⟨.num (HG k x y),λ_=>BQ (HG k x y) (HG k x y),λ_=>rfl⟩
@[reducible] def wcp(k:IntKind)(x:Int):Sz:=⟨.num (Kt k x),λ_=>BQ (Kt k x) (Kt k x),λ_=>rfl⟩
def Ao(k:IntKind)(x y:Int):Int:=x.fdiv (2^(min y.toNat k.bits))
def tv(k:IntKind)(x y:Int):Int:=k.wrap (x*2^(min y.toNat k.bits))
def uH(k:IntKind)(x y:Int):Int:=k.wrap (x.tdiv y)
def Kc(_:IntKind)(x y:Int):Int:=x.tmod y
@[reducible] def shr(i:IntKind)(x y:Int)(k:PT os β):PT os β:=v2 ⟨.num (Ao i x y),λ_=>True,0<=y,inferInstance,λ_ _=>trivial⟩ (λ_=>Tz 0 y) (λ_=>BQ (x.fdiv (2^(min y.toNat i.bits))) (Ao i x y)) (λh _=>⟨h,rfl⟩) k
@[reducible] def shl(i:IntKind)(x y:Int)(k:PT os β):PT os β:=v2 ⟨.num (tv i x y),λ_=>True,0<=y,inferInstance,λ_ _=>trivial⟩ (λ_=>Tz 0 y) (λ_=>CQ i (x*2^(min y.toNat i.bits)) (tv i x y)) (λh _=>⟨h,rfl⟩) k
@[reducible] def quo(i:IntKind)(x y:Int)(k:PT os β):PT os β:=v2 ⟨.num (uH i x y),λ_=>True,y≠0,inferInstance,λ_ _=>trivial⟩ (λ_=>TC y 0) (λ_=>CQ i (x.tdiv y) (uH i x y)) (λh _=>⟨h,rfl⟩) k
@[reducible] def rem(i:IntKind)(x y:Int)(k:PT os β):PT os β:=v2 ⟨.num (Kc i x y),λ_=>True,y≠0,inferInstance,λ_ _=>trivial⟩ (λ_=>TC y 0) (λ_=>BQ (x.tmod y) (Kc i x y)) (λh _=>⟨h,rfl⟩) k
@[reducible] def sy(w:AT->AT)(p:En->Prop)(h:∀E,p E):Sz:=⟨w,p,h⟩
structure KC (P:Program) (f:FuncId) (xs:List AV) {γ:Type} (M:Option γ) (e:γ->AV):Prop where
 k:∀l H y,M=some y->Zdm P f l xs H (λz H'=>z=e y/\H'=H)
 x:∀r,Aq r xs=xs
 e:∀r y,ren r (e y)=e y
@[reducible] def cl{P:Program}{f:FuncId}{xs:List AV}{γ:Type}[Inhabited γ]{M:Option γ}{e:γ->AV}(K:KC P f xs M e)(k:γ->PT os β):PT os β:=
 ⟨.call (e (M.getD default)) [] (k (M.getD default)).a,λE=>H9 P E.l E.r f xs [] (e (M.getD default))/\(k (M.getD default)).q E,M.bind λy=>(k y).m,λE=>∀y,(k y).n E,λE h y hm g=>by
  obtain⟨x,a,c⟩:=bind_some hm;have d:M.getD default=x:=by rw[a];rfl
  rw[d];exact⟨λb _ _=>by rw[K.x,K.e];exact K.k _ b x a,(k x).ok E (h x) y c g⟩⟩
@[reducible] def Az(b:Bool){P:Program}{f:FuncId}{xs:List AV}{γ:Type}[Inhabited γ]{M:Option γ}{e:γ->AV}(K:KC P f xs M e)(k:γ->PT os β):PT os β:=
 ⟨.call (e (M.getD default)) [] (k (M.getD default)).a,λE=>(b=true->H9 P E.l E.r f xs [] (e (M.getD default)))/\(k (M.getD default)).q E,if(b=true->M.isSome=true)then(k (M.getD default)).m else none,λE=>∀y,(k y).n E,λE j y hm h=>by
  obtain⟨d,hm⟩:=BD hm;refine⟨λi c _ _=>?_,(k _).ok E (j _) y hm h⟩;obtain⟨x,a⟩:=E1.1 (d i);have g:M.getD default=x:=by rw[a];rfl
  rw[K.x,K.e,g];exact K.k _ c x a⟩
theorem KC.nrm{P:Program}{f:FuncId}{xs xs':List AV}{γ:Type}{M:Option γ}{e:γ->AV}(K:KC P f xs M e)(h:∀l H Post,Zdm P f l xs H Post->Zdm P f l xs' H Post)(hx:∀r,Aq r xs'=xs'):KC P f xs' M e:=⟨λl H y hm=>h _ _ _ (K.k l H y hm),hx,K.e⟩
end
section
variable {P:Program} {T:Nat->Option TI} {n:Nat} {C:Cx} {τ σ:St} {Q:Exit->St->Prop} {os:Nat} {p:List Nat} {b:Code}
def pa:List Nat->Code->Code
 |[],c=>c
 |i::p,c=>JO [i] (pa p c)
def ZPZ:Code->Bool
 |.seq _ _=>true
 |_=>false
def ZQh(i:Nat):Code->Bool
 |.block j _=>Nat.beq j i
 |_=>false
def qa:Code->Bool
 |.cond _ _ _=>true
 |_=>false
def ZOP:Code->Bool
 |.loop _=>true
 |_=>false
theorem sq(h:LW P n C (pa (0::p) b) τ (λe τ'=>match e with|.normal=>LW P n C (pa (1::p) b) τ' Q|e=>Q e τ'))(hs:ZPZ (pa p b)=true:=by kernel_rfl):LW P n C (pa p b) τ Q:=by
 unfold pa at h;generalize pa p b=c at*;cases c with
 |seq x y=>exact ZLF h
 |_=>cases hs
def Qg(P:Program)(T:Nat->Option TI)(l n os:Nat)(r:Ren):Nat->Code->AT->St->(Exit->St->AT->Prop)->Prop
 |0,_,a,τ,K=>K .normal τ a
 |m+1,.seq x y,a,τ,K=>C7 P T l n os r x a τ (λe τ' b=>match e with|.normal=>Qg P T l n os r m y b τ' K|e=>K e τ' b)
 |_,_,_,_,_=>False
def Po:Nat->Code->Code
 |m+1,.seq _ y=>Po m y
 |_,c=>c
def up:Nat->List Nat->List Nat
 |0,p=>p
 |m+1,p=>up m (1::p)
def S3:Nat->Code->Bool
 |m+1,.seq _ y=>S3 m y
 |0,_=>true
 |_,_=>false
theorem mb:∀(m:Nat) (p:List Nat),S3 m (pa p b)=true->Po m (pa p b)=pa (up m p) b
 |0,p,_=>by show Po 0 (pa p b)=pa p b;cases pa p b<;>rfl
 |m+1,p,h=>by
  have a:=mb m (1::p);have e:pa (1::p) b=JO [1] (pa p b):=rfl;show Po (m+1) (pa p b)=pa (up m (1::p)) b;generalize pa p b=c at*;cases c with
  |seq x y=>
   have e:pa (1::p) b=y:=e;rw[e]at a;exact a h
  |_=>cases h
theorem wo(o:CxOk C)(q:Bi P T)(hm:P.follows .mixedOrders=true){γ:Ad->Nat}{QQ:Exit->St->Prop}(r:∀e σ b,QQ e b->Wk n C σ b->QQ e σ):∀(m:Nat) (c:Code) (a:AT) (τ σ:St) (K:Exit->St->AT->Prop),Qg P T C.l n C.outs (C.r γ) m c a τ K->RG (C.r γ) C.l C.outs [] τ σ->
  (∀τ' d b,K .normal τ' d->RG (C.r γ) C.l C.outs [] τ' b->BT P C.l n C.B (Po m c) QQ b)->(∀e τ' d b,e≠.normal->K e τ' d->RG (C.r γ) C.l C.outs [] τ' b->QQ e b)->BT P C.l n C.B c QQ σ
 |0,c,a,τ,σ,K,h,f,g,_=>by
  have:=g τ a σ h f;have e:Po 0 c=c:=by cases c<;>rfl
  grind
 |m+1,c,a,τ,σ,K,h,f,g,p=>by
  cases c with
  |seq x y=>
   refine gR (IN (Ha o q hm x a τ σ _ h f) λe b hi=>?_);obtain⟨τ',d,i,j,k,l⟩:=hi;cases e with
   |normal=>exact BT.weak (wo o q hm r m y d τ' i K j k g p) l
   |_=>exact r _ _ _ (p _ _ _ _ (by intro e;cases e) j k) l
  |_=>exact h.elim
variable {β:Type} {Post:AV->List Blk->Prop} {rs:List ResultVar} {L:β->Prop} {y:β}
theorem ZUl{fx:List Nat}(co:COx C os fx)(i:Bi P T)(hm:P.follows .mixedOrders=true){c:Code}(v:PT os β)(h:v.m=some y)(f:HL L y)
  (j:∀r (g:Gd C r),v.n ⟨⟨C.l,r,λ_ _=>False,Post⟩,L,C,_,co,g,rfl⟩) (k:∀l r Q Post,C7 P T l n os r c v.a τ (KF T rs os Post)=v.q ⟨l,r,Q,Post⟩:=by intro l r Q P;kernel_rfl):LW P n C c τ (FQ T rs os Post):=
 ZEj co.ok i hm co.O v.a rs (λr Post=>v.q ⟨C.l,r,λ_ _=>False,Post⟩) (λr Post=>k _ r _ Post) λr a b d e=>v.ok _ (j r ⟨a,b,d,e⟩) y h f
theorem ZS5{fx:List Nat}(co:COx C os fx)(k:Bi P T)(hm:P.follows .mixedOrders=true){c:Code}(v:PT os β)(lf a:Lf)(j:∀τ,FQ T rs os Post .ret τ->Q .ret τ)(h:v.m=some y)(i:HL L y)
  (m:∀r (g:Gd C r),v.n ⟨⟨C.l,r,Q,Post⟩,L,C,_,co,g,rfl⟩) (o:∀l r Q Post,C7 P T l n os r c v.a τ (KB T rs os fx r Post lf a Q)=v.q ⟨l,r,Q,Post⟩:=by intro l r Q P;kernel_rfl):LW P n C c τ Q:=
 ZF0 co.ok k hm co.O co.F v.a lf a rs (λr Q Post=>v.q ⟨C.l,r,Q,Post⟩) (o _) j λr b d e f=>v.ok _ (m r ⟨b,d,e,f⟩) y h i
theorem uO{fx:List Nat}(co:COx C os fx)(I:Bi P T)(hm:P.follows .mixedOrders=true)(m:Nat)(v:PT os β)(lf O:Lf)(H:∀τ,FQ T rs os Post .ret τ->Q .ret τ)(M:v.m=some y)(G:HL L y)
  (J:∀r (g:Gd C r),v.n ⟨⟨C.l,r,λe τ'=>match e with|.normal=>LW P n C (pa (up m p) b) τ' Q|e=>Q e τ',Post⟩,L,C,_,co,g,rfl⟩)
  (K:∀l r Q Post,Qg P T l n os r m (pa p b) v.a τ (KB T rs os fx r Post lf O Q)=v.q ⟨l,r,Q,Post⟩:=by intro l r Q P;kernel_rfl) (hl:S3 m (pa p b)=true:=by kernel_rfl):LW P n C (pa p b) τ Q:=by
 intro γ σ u F;have s:=v.ok _ (J (C.r γ) ⟨rfl,rfl,rfl,rfl⟩) y M G;rw[<-K]at s;generalize v.a=a at s;rw[<-co.O,<-co.F]at s;refine wo co.ok I hm (QQ:=λe σ=>Is n C (Q e) σ) (λe σ D hi hw=>?_) m _ _ _ _ _ s F (λτ' q D d c=>?_) (λe τ' q D w d c=>?_)
 ·obtain⟨k,t,o,N,f,h,j⟩:=hi;exact⟨k,t,o,N,f,h,hw.trans j⟩
 ·simp only[KB]at d;obtain⟨S,E,R,f,h,j⟩:=Cv (n:=n) co.ok q d c;obtain⟨k,t,o,x,z,A,B⟩:=IM (n:=n) co.ok f u h;rw[mb m p hl];exact BT.weak (z k o x A) (j.trans B)
 ·cases e with
  |normal=>exact absurd rfl w
  |ret=>exact .of u c (H _ ⟨.inr rfl,q,by rw[<-co.O];exact d⟩)
  |exit i=>
   simp only[KB]at d;obtain⟨S,E,R,f,h,j⟩:=Cv (n:=n) co.ok q d c;obtain⟨k,t,o,x,z,A,B⟩:=IM (n:=n) co.ok f u h;exact⟨k,t,o,x,z,A,j.trans B⟩
  |_=>exact d.elim
theorem bl{f:Type}{fx:List Nat}(co:COx C os fx)(k:Bi P T)(hm:P.follows .mixedOrders=true)(m:Nat)(v:PT os β)(lf d:Lf)(j:∀τ,FQ T rs os Post .ret τ->Q .ret τ)(s:v.m=some y)(i:HL L y)(c:f->St)(a:f->Option β)
  (h:∀x y,a x=some y->HL L y->LW P n C (pa (up m p) b) (c x) Q)
  (o:(∀x y,a x=some y->HL L y->LW P n C (pa (up m p) b) (c x) Q)->∀r (g:Gd C r),v.n ⟨⟨C.l,r,λe τ'=>match e with|.normal=>LW P n C (pa (up m p) b) τ' Q|e=>Q e τ',Post⟩,L,C,_,co,g,rfl⟩)
  (q:∀l r Q Post,Qg P T l n os r m (pa p b) v.a τ (KB T rs os fx r Post lf d Q)=v.q ⟨l,r,Q,Post⟩:=by intro l r Q P;kernel_rfl) (hl:S3 m (pa p b)=true:=by kernel_rfl):LW P n C (pa p b) τ Q:=
 uO co k hm m v lf d j s i (o h) q hl
theorem bk(i:Nat)(h:LW P n C (pa (0::p) b) τ (λe τ'=>match e with|.exit j=>(match Nat.beq j i with|true=>Q .normal τ'|false=>Q (.exit j) τ')|e=>Q e τ'))(hs:ZQh i (pa p b)=true:=by kernel_rfl):LW P n C (pa p b) τ Q:=by
 unfold pa at h;generalize pa p b=c at*;cases c with
 |block j x=>exact Zsk i x (by rw[show j=i from Yd hs]) h
 |_=>cases hs
theorem cd(x:Bool){f m2:Option β}(hm:(if x=true then f else m2)=some y)(a:f=some y->LW P n C (pa (0::p) b) τ Q)(d:m2=some y->LW P n C (pa (1::p) b) τ Q)(hs:qa (pa p b)=true:=by kernel_rfl)(he:ev τ.s (nD (pa p b))=.d (.bool x):=by kernel_rfl):LW P n C (pa p b) τ Q:=by
 unfold pa at a d;generalize pa p b=c at*;cases c with
 |cond o u v=>exact ZDD he (λe=>a (by rw[Yi e]at hm;exact hm)) (λe=>d (by rw[Yh (by rw[e];decide)]at hm;exact hm))
 |_=>cases hs
theorem lo(h:LL P n C (pa (0::p) b) τ Q)(hs:ZOP (pa p b)=true:=by kernel_rfl):LW P n C (pa p b) τ Q:=by
 unfold pa at h;generalize pa p b=c at*;cases c with
 |loop x=>exact ZEb h
 |_=>cases hs
theorem Cb(v:PT os β){fx:List Nat}(co:COx C os fx)(e:v.m=some y)(a:HL L y)(b:∀r (g:Gd C r),v.n ⟨⟨C.l,r,λ_ _=>False,Post⟩,L,C,_,co,g,rfl⟩)(r:Ren)(d:Gd C r)
  (c:∀l r Q Post,Qh T rs os τ v.a Post=v.q ⟨l,r,Q,Post⟩:=by intro l r Q P;kernel_rfl):FQ T rs os Post .normal τ:=
 ⟨.inl rfl,v.a,by rw[c C.l r (λ_ _=>False) Post];exact v.ok _ (b r d) y e a⟩
end
section
variable {σ ξ ρ:Type}
def Aj(B:σ->Option (Lv σ ξ ρ)):Nat->σ->Option (ξ ⊕ ρ)
 |0,_=>none
 |n+1,v=>match B v with
  |some (.nx a)=>Aj B n a
  |some (.ex b)=>some (.inl b)
  |some (.rt y)=>some (.inr y)
  |none=>none
def Ag:Nat:=4611686018427387904
def lj(S:σ->St)(X:ξ->Nat×St)(er:ρ->AV)(bs:ρ->List Blk)(Q:Exit->St->Prop)(Post:AV->List Blk->Prop):Lv σ ξ ρ->Prop
 |.nx v=>Q .normal (S v)
 |.ex b=>Q (.exit (X b).1) (X b).2
 |.rt y=>Post (er y) (bs y)
variable {P:Program} {T:Nat->Option TI} {n:Nat} {C:Cx} {τ:St} {Q:Exit->St->Prop} {rs:List ResultVar} {os:Nat} {c:Code} {Post:AV->List Blk->Prop}
variable {S:σ->St} {X:ξ->Nat×St} {er:ρ->AV} {bs:ρ->List Blk} {B:σ->Option (Lv σ ξ ρ)}
def KL(P:Program)(T:Nat->Option TI)(n:Nat)(C:Cx)(c:Code)(rs:List ResultVar)(os:Nat)(S:σ->St)(X:ξ->Nat×St)(er:ρ->AV)(bs:ρ->List Blk)(B:σ->Option (Lv σ ξ ρ)):Prop:=
 ∀v o,B v=some o->∀(Q:Exit->St->Prop) (Post:AV->List Blk->Prop),(∀τ,FQ T rs os Post .ret τ->Q .ret τ)->HL (lj S X er bs Q Post) o->LW P n C c (S v) Q
theorem wr(g:KL P T n C c rs os S X er bs B)(f:∀τ,FQ T rs os Post .ret τ->Q .ret τ):∀(k:Nat) (v:σ) (o:ξ ⊕ ρ),Aj B k v=some o->
  (∀b,o=.inl b->Q (.exit (X b).1) (X b).2)->(∀y,o=.inr y->Post (er y) (bs y))->LL P n C c (S v) Q
 |0,v,o,h,_,_=>by cases h
 |k+1,v,o,h,d,e=>by
  rw[Aj]at h;refine Zw9 ?_;cases a:B v with
  |none=>rw[a]at h;cases h
  |some w=>
   rw[a]at h;refine g v w a _ Post (λτ i=>f τ i) ?_;cases w with
   |nx j=>exact wr g f k j o h d e
   |ex b=>cases h;exact d b rfl
   |rt y=>cases h;exact e y rfl
theorem zU{β:Type}{k:ξ ⊕ ρ->Option β}{N:Nat}{v:σ}{y:β}(i:KL P T n C c rs os S X er bs B)(h:∀τ,FQ T rs os Post .ret τ->Q .ret τ)(hm:(Aj B N v).bind k=some y)
  (f:∀b,k (.inl b)=some y->Q (.exit (X b).1) (X b).2) (g:∀z,k (.inr z)=some y->Post (er z) (bs z)):LL P n C c (S v) Q:=by
 obtain⟨o,d,a⟩:=bind_some hm;exact wr i h N v o d (λb e=>f b (e▸a)) (λz e=>g z (e▸a))
theorem Ax{g:ξ->Option ρ}{N:Nat}{v:σ}{y:ρ}(f:KL P T n C c rs os S X er bs B)(e:∀τ,FQ T rs os Post .ret τ->Q .ret τ)(hm:(Aj B N v).bind (Sum.elim g some)=some y)(d:HL (λy=>Post (er y) (bs y)) y)
  (a:∀b,g b=some y->Q (.exit (X b).1) (X b).2) (hs:S v=τ:=by kernel_rfl):LL P n C c τ Q:=
 hs▸zU f e hm a λz h=>by cases h;exact d
theorem Fv{d a:Type}{f:d->St}{h:a->Nat×St}{e:Exit->St->Prop}{g:ξ->Option (Lv d a ρ)}{N:Nat}{v:σ}{y:Lv d a ρ}(l:KL P T n C c rs os S X er bs B)(k:∀τ,FQ T rs os Post .ret τ->Q .ret τ)(hm:(Aj B N v).bind (Sum.elim g λz=>some (.rt z))=some y)(j:HL (lj f h er bs e Post) y)
  (i:∀b,g b=some y->Q (.exit (X b).1) (X b).2) (hs:S v=τ:=by kernel_rfl):LL P n C c τ Q:=
 hs▸zU l k hm i λz m=>by cases m;exact j
end
theorem Cp{P:Program}{T:Nat->Option TI}{n:Nat}{f:FuncId}{fn:Func}{xs:List AV}{γ:Type}{M:Option γ}{e:γ->AV}(d:P.funcs[f]?=some fn)(g:fn.ntmps=n)(b:Bi P T)(rs:List ResultVar)
  (h:∀C:Cx,CO C 0->∀y,M=some y->∀Post:AV->List Blk->Prop,HL (λy=>Post (e y) []) y->LW P n C (pa [] (Au fn)) (Ac (D7 0 xs) []) (FQ T rs 0 Post))
  (hx:∀r,Aq r xs=xs:=by intro r;kernel_rfl) (he:∀r y,ren r (e y)=e y:=by intro r y;kernel_rfl)
  (c:fn.body=some (Au fn):=by kernel_rfl) (a:(fn.name== "runtime.NumGoroutine")=false:=by kernel_rfl) (i:fn.results.toList=rs:=by kernel_rfl) (hl:Nat.ble xs.length n=true:=by kernel_rfl):KC P f xs M e:=
 ⟨λl H y hm=>Zqq rs (Au fn) (λ_=>.top) xs d c a g i (Ym hl) b (hx _) λB=>h _ ⟨wx l B _ H,rfl,rfl,λ_ h=>absurd h (Y8 _)⟩ y hm (λz _=>z=e y/\H=H) ⟨rfl,rfl⟩,hx,he⟩
end Go.Eng
