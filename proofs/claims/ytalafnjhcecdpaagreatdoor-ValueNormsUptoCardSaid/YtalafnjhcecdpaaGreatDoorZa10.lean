import Derived.Test.YtalafnjhcecdpaaGreatDoorZa09
import Derived.Test.YtalafnjhcecdpaaGreatDoorZa00
namespace Go.Eng
set_option linter.all false
open Go Go.RowKit
abbrev vL{α:Type}(e:α->List D)(xs:List α):AV:=.d (.list (xs.map e))
abbrev vS(s:ByteArray):AV:=.d (.str s)
abbrev vI(x:Int):AV:=.d (.int .i64 x)
abbrev vN(x:Nat):AV:=.d (.int .i64 (x:Int))
abbrev vB(x:Bool):AV:=.d (.bool x)
abbrev nl:Lf:=⟨[],[],[],[]⟩
abbrev pp(n:Nat):Nat×AV:=(n,.ptr (1,n) 0 0)
abbrev kk(d:Nat)(e:EK)(sz:Nat)(c:List AV):Ad×Blk:=((1,d),⟨0,true,e,sz,c⟩)
abbrev nG{α β:Type}:α->List β:=λ_=>[]
theorem nH{α:Type}{p:α->Prop}:∀x,p x->p x:=λ_ h=>h
abbrev cD(l:List D):List AV:=l.map .d
abbrev AA(ls:List Nat):Lf:=⟨ls,[],[],[]⟩
abbrev Aa(ls:List Nat)(ks:List (Ad×Bool)):Lf:=⟨ls,ks,[],[]⟩
class Rw (α:Type) where
 e:α->List D
 f:α->List D
 z:α
 s:Nat
 len:∀x,(e x).length=s
 ef:∀x,e x=f x
 s0:s≠0
instance:Rw ByteArray:=⟨A6,A6,⟨#[]⟩,1,λ_=>rfl,λ_=>rfl,by decide⟩
instance:Rw Bool:=⟨AO,AO,false,1,λ_=>rfl,λ_=>rfl,by decide⟩
instance:Rw Raw:=⟨Ay,Ay,ZRx,4,λ_=>rfl,λ_=>rfl,by decide⟩
instance:Rw Val:=⟨AE,Ae,MH,7,λ_=>by rw[GE];rfl,GE,by decide⟩
instance:Rw Pr:=⟨An,CY,zPr,14,λ_=>by rw[LM];rfl,LM,by decide⟩
instance:Rw Slt:=⟨Ar,BS,ZQ8,8,λ_=>by rw[LH];rfl,LH,by decide⟩
instance:Rw Nt:=⟨Cd,Cd,zNt,8,λ_=>rfl,λ_=>rfl,by decide⟩
instance:Rw Fld:=⟨Au,Au,ZRq,16,λ_=>rfl,λ_=>rfl,by decide⟩
instance:Rw Spn:=⟨CK,CK,ZRu,2,λ_=>rfl,λ_=>rfl,by decide⟩
instance:Rw Msg:=⟨AD,AD,ZRs,5,λ_=>rfl,λ_=>rfl,by decide⟩
instance:Rw Itm:=⟨CJ,CJ,ZQD,3,λ_=>rfl,λ_=>rfl,by decide⟩
instance:Rw Enm:=⟨BC,BC,ZRD,5,λ_=>rfl,λ_=>rfl,by decide⟩
instance:Rw Mth:=⟨HE,HE,ZRj,5,λ_=>rfl,λ_=>rfl,by decide⟩
instance:Rw Svc:=⟨Dv,Dv,ZRh,3,λ_=>rfl,λ_=>rfl,by decide⟩
instance:Rw Prb:=⟨Ak,Ak,ZQ2,3,λ_=>rfl,λ_=>rfl,by decide⟩
inductive Lv (σ ξ ρ:Type) where
 |nx (v:σ)
 |ex (b:ξ)
 |rt (y:ρ)
structure En where
 l:Nat
 r:Ren
 Q:Exit->St->Prop
 P:AV->List Blk->Prop
structure Gd (C:Cx) (r:Ren):Prop where
 θ:r.θ=C.θ
 H:r.H0=C.H0
 κ:r.κ=C.κ
 no:r.no=C.no
structure COx (C:Cx) (os:Nat) (fx:List Nat):Prop where
 ok:CxOk C
 O:C.outs=os
 F:C.fx=fx
 W:∀q,q<os->C.no (C.κ (0,q))
abbrev CO(C:Cx)(os:Nat):Prop:=COx C os (JA os)
def HL{β:Type}(L:β->Prop)(y:β):Prop:=L y
structure Ev (os:Nat) (β:Type) where
 E:En
 L:β->Prop
 C:Cx
 fx:List Nat
 co:COx C os fx
 g:Gd C E.r
 hl:E.l=C.l
structure PT (os:Nat) (β:Type) where
 a:AT
 q:En->Prop
 m:Option β
 n:Ev os β->Prop
 ok:∀E:Ev os β,n E->∀y,m=some y->HL E.L y->q E.E
section
variable {os:Nat} {β:Type}
structure Sp where
 w:AT->AT
 p:En->Prop
 c:Prop
 d:Decidable c
 ok:c->∀E,p E
structure Sz where
 w:AT->AT
 p:En->Prop
 ok:∀E,p E
theorem BB{c:Prop}[d:Decidable c]{m:Option β}{y:β}(h:(if c then m else none)=some y):c/\m=some y:=by grind
theorem bind_some{γ:Type}{m:Option γ}{k:γ->Option β}{y:β}(h:m.bind k=some y):∃x,m=some x/\k x=some y:=by
 cases m with
 |none=>cases h
 |some x=>exact⟨x,rfl,h⟩
@[reducible] def vs(s:Sp)(k:PT os β):PT os β:=⟨s.w k.a,λE=>s.p E/\k.q E,@ite _ s.c s.d k.m none,k.n,λE d y hm c=>by obtain⟨a,b⟩:=@BB _ _ s.d _ _ hm;exact⟨s.ok a E.E,k.ok E d y b c⟩⟩
@[reducible] def vg(b:Bool)(s:Sp)(k:PT os β):PT os β:=⟨s.w k.a,λE=>(b=true->s.p E)/\k.q E,@ite _ (b=true->s.c) (@instDecidableForall _ _ _ s.d) k.m none,k.n,λE f y hm d=>by obtain⟨a,c⟩:=@BB _ _ (@instDecidableForall _ _ _ s.d) _ _ hm;exact⟨λe=>s.ok (a e) E.E,k.ok E f y c d⟩⟩
@[reducible] def vz(s:Sz)(k:PT os β):PT os β:=⟨s.w k.a,λE=>s.p E/\k.q E,k.m,k.n,λE b y hm a=>⟨s.ok E.E,k.ok E b y hm a⟩⟩
@[reducible] def vy(b:Bool)(s:Sz)(k:PT os β):PT os β:=⟨s.w k.a,λE=>(b=true->s.p E)/\k.q E,k.m,k.n,λE c y hm a=>⟨λ_=>s.ok E.E,k.ok E c y hm a⟩⟩
@[reducible] def v2(s:Sp)(b c:En->Prop)(h:s.c->∀E,b E/\c E)(k:PT os β):PT os β:=⟨s.w k.a,λE=>b E/\c E/\k.q E,@ite _ s.c s.d k.m none,k.n,λE f y hm e=>by obtain⟨a,d⟩:=@BB _ _ s.d _ _ hm;exact⟨(h a E.E).1,(h a E.E).2,k.ok E f y d e⟩⟩
@[reducible] def vw(w:AT->AT)(k:PT os β):PT os β:=⟨w k.a,k.q,k.m,k.n,k.ok⟩
@[reducible] def wg(k:PT os β):PT os β:=⟨.go k.a,k.q,k.m,k.n,k.ok⟩
@[reducible] def br(b:Bool)(t f:PT os β):PT os β:=⟨.br t.a f.a,λE=>(b=true->t.q E)/\(b=false->f.q E),if b=true then t.m else f.m,λE=>t.n E/\f.n E,λE c y hm a=>
 ⟨λe=>t.ok E c.1 y (by rw[Ym e]at hm;exact hm) a,λe=>f.ok E c.2 y (by rw[Yk (by rw[e];decide)]at hm;exact hm) a⟩⟩
@[reducible] def bT(b:Bool)(t:PT os β):PT os β:=⟨.one true t.a,λE=>(b=true->t.q E)/\(b=false->False),if b=true then t.m else none,t.n,λE c y hm a=>by obtain⟨h,hm⟩:=BB hm;exact⟨λ_=>t.ok E c y hm a,λe=>absurd (h.symm.trans e) (by decide)⟩⟩
@[reducible] def bF(b:Bool)(f:PT os β):PT os β:=⟨.one false f.a,λE=>(b=true->False)/\(b=false->f.q E),if b=false then f.m else none,f.n,λE c y hm a=>by obtain⟨h,hm⟩:=BB hm;exact⟨λe=>absurd (e.symm.trans h) (by decide),λ_=>f.ok E c y hm a⟩⟩
@[reducible] def al{α:Type}(e:α->List D)(xs:List α)(neg:Bool)(k:Bool->PT os β):PT os β:=⟨(k neg).a,λE=>∀b:Bool,(xs.map e≠[]->b=neg)->(k b).q E,(k neg).m,
 λE=>(∀b,(k b).n E)/\∀b,xs=[]->(k b).m=(k neg).m,λE a y hm c b f=>by
  by_cases h:xs=[]
  ·exact(k b).ok E (a.1 b) y ((a.2 b h).trans hm) c
  ·have:b=neg:=f (by intro d;exact h (XG.1 d));subst this;exact(k b).ok E (a.1 b) y hm c⟩
@[reducible] def dd:PT os β:=⟨.nil,λ_=>False,none,λ_=>True,λ_ _ _ h _=>by cases h⟩
@[reducible] def lf(p:En->Prop)(y:β):PT os β:=⟨.nil,p,some y,λE=>HL E.L y->p E.E,λE b z hm a=>b (by cases hm;exact a)⟩
@[reducible] def lc(s:St)(m:Option β):PT os β:=⟨.nil,λE=>E.Q .normal s,m,λE=>∀y,m=some y->HL E.L y->E.E.Q .normal s,λE b y hm a=>b y hm a⟩
@[reducible] def Kv(c:Prop)[Decidable c](p:En->Prop)(y:β):PT os β:=⟨.nil,p,if c then some y else none,λE=>c->HL E.L y->p E.E,λE d z hm b=>by obtain⟨a,hm⟩:=BB hm;cases hm;exact d a b⟩
@[reducible] def lr(er:β->AV)(bs:β->List Blk)(y:β):PT os β:=lf (λE=>E.P (er y) (bs y)) y
section
variable {σ ξ ρ:Type}
@[reducible] def Aq(er:ρ->AV)(bs:ρ->List Blk)(y:ρ):PT os (Lv σ ξ ρ):=lf (λE=>E.P (er y) (bs y)) (.rt y)
@[reducible] def ln(S:σ->St)(v:σ):PT os (Lv σ ξ ρ):=lf (λE=>E.Q .normal (S v)) (.nx v)
@[reducible] def Af(X:ξ->Nat×St)(b:ξ):PT os (Lv σ ξ ρ):=lf (λE=>E.Q (.exit (X b).1) (X b).2) (.ex b)
end
section
variable {α:Type} [Rw α]
@[reducible] def ix(xs:List α)(i:Nat)(k:α->PT os β):PT os β:=
 ⟨.ds (Rw.f (xs.getD i Rw.z)) (k (xs.getD i Rw.z)).a,λE=>Kh (xs.map Rw.e) ((i:Nat):Int) (Rw.f (xs.getD i Rw.z))/\(k (xs.getD i Rw.z)).q E,xs[i]?.bind λx=>(k x).m,λE=>∀x,(k x).n E,λE d y hm c=>by
  obtain⟨x,a,b⟩:=bind_some hm;have e:xs.getD i Rw.z=x:=by rw[Yg,a];rfl
  rw[e];exact⟨ug a Rw.ef,(k x).ok E (d x) y b c⟩⟩
@[reducible] def Di(xs:List α)(i:Int)(k:α->PT os β):PT os β:=
 ⟨.ds (Rw.f (xs.getD i.toNat Rw.z)) (k (xs.getD i.toNat Rw.z)).a,λE=>Kh (xs.map Rw.e) i (Rw.f (xs.getD i.toNat Rw.z))/\(k (xs.getD i.toNat Rw.z)).q E,if 0<=i then xs[i.toNat]?.bind λx=>(k x).m else none,λE=>∀x,(k x).n E,λE g y hm d=>by
  obtain⟨b,hm⟩:=BB hm;obtain⟨x,a,c⟩:=bind_some hm;have e:xs.getD i.toNat Rw.z=x:=by rw[Yg,a];rfl
  have f:=(Yc.1 a).1;exact⟨sn b ae Rw.ef,by rw[e];exact(k x).ok E (g x) y c d⟩⟩
@[reducible] def AW(b:Bool)(xs:List α)(i:Int)(k:α->PT os β):PT os β:=
 ⟨.ds (Rw.f (xs.getD i.toNat Rw.z)) (k (xs.getD i.toNat Rw.z)).a,λE=>(b=true->Kh (xs.map Rw.e) i (Rw.f (xs.getD i.toNat Rw.z)))/\(k (xs.getD i.toNat Rw.z)).q E,if(b=true->0<=i/\i<xs.length)then(k (xs.getD i.toNat Rw.z)).m else none,λE=>∀x,(k x).n E,λE d y hm c=>by obtain⟨a,hm⟩:=BB hm;exact⟨λe=>sn (a e).1 (a e).2 Rw.ef,(k _).ok E (d _) y hm c⟩⟩
@[reducible] def ca(xs:List α)(j:Nat)(k:α->PT os β):PT os β:=
 ⟨.cs ((Rw.f (xs.getD j Rw.z)).map .d) (k (xs.getD j Rw.z)).a,λE=>D3 (Ac Rw.e xs) (j*Rw.s α) ((Rw.f (xs.getD j Rw.z)).map .d)/\(k (xs.getD j Rw.z)).q E,xs[j]?.bind λx=>(k x).m,λE=>∀x,(k x).n E,λE d y hm c=>by
  obtain⟨x,a,b⟩:=bind_some hm;have e:xs.getD j Rw.z=x:=by rw[Yg,a];rfl
  rw[e];exact⟨ZqM a Rw.len Rw.ef,(k x).ok E (d x) y b c⟩⟩
theorem mF{xs:List α}{j o m:Nat}(a:Nat.ble (o+m) (Rw.s α)=true)(h:j<xs.length):D3 (Ac Rw.e xs) (j*Rw.s α+o) ((((Rw.f (xs.getD j Rw.z)).map AV.d).drop o).take m):=by
 have hl:((Rw.f (xs.getD j Rw.z)).map AV.d).length=Rw.s α:=by rw[YF,<-Rw.ef,Rw.len]
 have a:=Yj a;exact ZlV h Rw.len Rw.ef (by rw[YD,Dz,hl,FJ ae]) (by rw[YD,Dz,hl];omega)
@[reducible] def cp(xs:List α)(j o m:Nat)(k:α->PT os β)(f:Nat.ble (o+m) (Rw.s α)=true:=by kernel_rfl):PT os β:=
 ⟨.cs ((((Rw.f (xs.getD j Rw.z)).map AV.d).drop o).take m) (k (xs.getD j Rw.z)).a,λE=>D3 (Ac Rw.e xs) (j*Rw.s α+o) ((((Rw.f (xs.getD j Rw.z)).map AV.d).drop o).take m)/\(k (xs.getD j Rw.z)).q E,xs[j]?.bind λx=>(k x).m,λE=>∀x,(k x).n E,λE d y hm c=>by
  obtain⟨x,a,b⟩:=bind_some hm;have e:xs.getD j Rw.z=x:=by rw[Yg,a];rfl
  exact⟨mF f (Yc.1 a).1,by rw[e];exact(k x).ok E (d x) y b c⟩⟩
@[reducible] def Fy(b:Bool)(xs:List α)(j:Nat)(k:α->PT os β):PT os β:=
 ⟨.cs ((Rw.f (xs.getD j Rw.z)).map .d) (k (xs.getD j Rw.z)).a,λE=>(b=true->D3 (Ac Rw.e xs) (j*Rw.s α) ((Rw.f (xs.getD j Rw.z)).map .d))/\(k (xs.getD j Rw.z)).q E,if(b=true->j<xs.length)then(k (xs.getD j Rw.z)).m else none,λE=>∀x,(k x).n E,λE d y hm c=>by obtain⟨a,hm⟩:=BB hm;exact⟨λe=>q5 (a e) Rw.len Rw.ef,(k _).ok E (d _) y hm c⟩⟩
@[reducible] def v7(b:Bool)(xs:List α)(j o m:Nat)(k:α->PT os β)(f:Nat.ble (o+m) (Rw.s α)=true:=by kernel_rfl):PT os β:=
 ⟨.cs ((((Rw.f (xs.getD j Rw.z)).map AV.d).drop o).take m) (k (xs.getD j Rw.z)).a,λE=>(b=true->D3 (Ac Rw.e xs) (j*Rw.s α+o) ((((Rw.f (xs.getD j Rw.z)).map AV.d).drop o).take m))/\(k (xs.getD j Rw.z)).q E,if(b=true->j<xs.length)then(k (xs.getD j Rw.z)).m else none,λE=>∀x,(k x).n E,λE d y hm c=>by obtain⟨a,hm⟩:=BB hm;exact⟨λe=>mF f (a e),(k _).ok E (d _) y hm c⟩⟩
@[reducible] def st(xs:List α)(j:Nat)(y:α):Sp:=⟨.cs (Ac Rw.e (xs.set j y)),λ_=>Jq (Ac Rw.e xs) (j*Rw.s α) ((Rw.f y).map .d) (Ac Rw.e (xs.set j y)),j<xs.length,inferInstance,λh _=>Zw3 h Rw.len Rw.ef⟩
@[reducible] def Ai(xs:List α):Sz:=⟨.num ((xs.length:Nat):Int),λ_=>BJ ((xs.map (Rw.e (α:=α))).length:Nat) ((xs.length:Nat):Int),λ_=>xq _ _⟩
@[reducible] def fl(xs:List α):Sz:=⟨id,λ_=>IJ (Ac Rw.e xs),λ_=>Ff _ _⟩
@[reducible] def fz(xs:List α):Sz:=⟨id,λ_=>HY (Ac Rw.e xs) 0 xs.length (Rw.s α) (xs.map Rw.e),λ_=>eV _ Rw.s0 Rw.len⟩
@[reducible] def fr(xs:List α):Sz:=⟨.av (.d (.list (xs.map Rw.e))),λ_=>HY (Ac Rw.e xs) 0 xs.length (Rw.s α) (xs.map Rw.e),λ_=>eV _ Rw.s0 Rw.len⟩
@[reducible] def ap(xs:List α)(y:α)(k:PT os β):PT os β:=⟨.nat 1 (.cs (Ac Rw.e [y]) (.cs (Ac Rw.e (xs++[y])) (.nat (xs++[y]).length k.a))),
 λE=>Em (Rw.s α) [] (.d (.list [Rw.f y])) 1 (Ac Rw.e [y])/\JE (Ac Rw.e xs) 0 xs.length 1 (Rw.s α) 256 (Ac Rw.e [y]) (Ac Rw.e (xs++[y])) (xs++[y]).length/\k.q E,
 if xs.length<549755813887 then k.m else none,k.n,λE b z hm a=>by obtain⟨c,hm⟩:=BB hm;exact⟨rJ _ Rw.len Rw.ef,P3 xs [y] Rw.len rfl rfl (by rw[Js];omega),k.ok E b z hm a⟩⟩
@[reducible] def aq(xs ys:List α)(k:PT os β):PT os β:=⟨.nat ys.length (.cs (Ac Rw.e ys) (.cs (Ac Rw.e (xs++ys)) (.nat (xs++ys).length k.a))),
 λE=>Em (Rw.s α) [] (.d (.list (ys.map Rw.e))) ys.length (Ac Rw.e ys)/\JE (Ac Rw.e xs) 0 xs.length ys.length (Rw.s α) 256 (Ac Rw.e ys) (Ac Rw.e (xs++ys)) (xs++ys).length/\k.q E,
 if xs.length+ys.length<549755813888 then k.m else none,k.n,λE b z hm a=>by obtain⟨c,hm⟩:=BB hm;exact⟨Um _ _ Rw.len,P3 xs ys Rw.len rfl rfl ae,k.ok E b z hm a⟩⟩
@[reducible] def gA(x:α)(ys:List α)(k:PT os β):PT os β:=⟨.nat ys.length (.cs (Ac Rw.e ys) (.cs (Ac Rw.e ([x]++ys)) (.nat ([x]++ys).length k.a))),
 λE=>Em (Rw.s α) [] (.d (.list (ys.map Rw.e))) ys.length (Ac Rw.e ys)/\JE ((Rw.f x).map .d) 0 1 ys.length (Rw.s α) 256 (Ac Rw.e ys) (Ac Rw.e ([x]++ys)) ([x]++ys).length/\k.q E,
 if ys.length<549755813887 then k.m else none,k.n,λE b z hm a=>by
  obtain⟨c,hm⟩:=BB hm;have e:(Rw.f x).map AV.d=Ac Rw.e [x]:=by rw[<-Rw.ef x];simp[Ac]
  rw[e];exact⟨Um _ _ Rw.len,P3 [x] ys Rw.len rfl rfl (by rw[Js];omega),k.ok E b z hm a⟩⟩
@[reducible] def ar(xs ys:List α)(kk:Ad)(g:Nat)(k:PT os β):PT os β:=⟨.nat ys.length (.cs (Ac Rw.e ys) (.cs (Ac Rw.e (xs++ys)) (.nat (xs++ys).length k.a))),
 λE=>Em (Rw.s α) (Ac Rw.e ys) (.ref kk g 0 ys.length) ys.length (Ac Rw.e ys)/\JE (Ac Rw.e xs) 0 xs.length ys.length (Rw.s α) 256 (Ac Rw.e ys) (Ac Rw.e (xs++ys)) (xs++ys).length/\k.q E,
 if xs.length+ys.length<549755813888 then k.m else none,k.n,λE b z hm a=>by obtain⟨c,hm⟩:=BB hm;exact⟨Zx7 _ _ _ Rw.len,P3 xs ys Rw.len rfl rfl ae,k.ok E b z hm a⟩⟩
@[reducible] def a1(y:α)(k:PT os β):PT os β:=⟨.nat 1 (.cs (Ac Rw.e [y]) k.a),λE=>Em (Rw.s α) [] (.d (.list [Rw.f y])) 1 (Ac Rw.e [y])/\O5 1 256/\k.q E,k.m,k.n,λE b z hm a=>⟨rJ _ Rw.len Rw.ef,by unfold O5;decide,k.ok E b z hm a⟩⟩
@[reducible] def a0(ys:List α)(k:PT os β):PT os β:=⟨.nat ys.length (.cs (Ac Rw.e ys) k.a),λE=>Em (Rw.s α) [] (.d (.list (ys.map Rw.e))) ys.length (Ac Rw.e ys)/\O5 ys.length 256/\k.q E,if ys.length<549755813888 then k.m else none,k.n,λE b z hm a=>by obtain⟨c,hm⟩:=BB hm;exact⟨Um _ _ Rw.len,by unfold O5;omega,k.ok E b z hm a⟩⟩
@[reducible] def gy(xs:List α)(y z:α)(k:PT os β):PT os β:=⟨.nat 2 (.cs (Ac Rw.e [y,z]) (.cs (Ac Rw.e (xs++[y,z])) (.nat (xs++[y,z]).length k.a))),
 λE=>Em (Rw.s α) [] (.d (.list [Rw.f y,Rw.f z])) 2 (Ac Rw.e [y,z])/\JE (Ac Rw.e xs) 0 xs.length 2 (Rw.s α) 256 (Ac Rw.e [y,z]) (Ac Rw.e (xs++[y,z])) (xs++[y,z]).length/\k.q E,
 if xs.length<549755813886 then k.m else none,k.n,λE b w hm a=>by obtain⟨c,hm⟩:=BB hm;refine⟨?_,P3 xs [y,z] Rw.len rfl rfl (by simp only[D0,Hd];omega),k.ok E b w hm a⟩;have:=Um (sz:=Rw.s α) (e:=Rw.e) ([]:List AV) [y,z] Rw.len;rw[<-Rw.ef,<-Rw.ef];exact this⟩
@[reducible] def ms(m:Nat)(z:α)(a:List AV)(d:(Rw.e z).map .d=a)(k:PT os β):PT os β:=⟨.nat (List.replicate m z).length (.cs (Ac Rw.e (List.replicate m z)) k.a),
 λE=>iH ((m:Nat):Int) ((m:Nat):Int) 256 (List.replicate m z).length a (Ac Rw.e (List.replicate m z))/\k.q E,if m<=549755813888 then k.m else none,k.n,λE c y hm b=>by obtain⟨e,hm⟩:=BB hm;exact⟨⟨by rw[iY],Int.le_refl _,ae,by rw[iY];exact y6 d m⟩,k.ok E c y hm b⟩⟩
@[reducible] def rn(j d n:Nat)(xs:List α)(k:PT os β):PT os β:=⟨.reb j d xs.length (Ac Rw.e xs) k.a,
 λE=>(n=xs.length/\0*Rw.s α<=(Ac (Rw.e (α:=α)) xs).length/\(Ac Rw.e xs).drop (0*Rw.s α)=Ac Rw.e xs)/\k.q E,if n=xs.length then k.m else none,k.n,λE c y hm b=>by obtain⟨a,hm⟩:=BB hm;exact⟨⟨a,by rw[Mq];exact Cn _,by rw[Mq];rfl⟩,k.ok E c y hm b⟩⟩
@[reducible] def HS(n:Nat)(xs:List α):Sp:=⟨.av (.d (.list (xs.map Rw.e))),λ_=>HY (Ac Rw.e xs) 0 n (Rw.s α) (xs.map Rw.e),n=xs.length,inferInstance,λh _=>yn h (eV _ Rw.s0 Rw.len)⟩
@[reducible] def Mb(xs:List α)(j a:Nat)(vs:List D)(Y:α->α)(he:∀x,Rw.e (Y x)=(Rw.e x).take a++vs++(Rw.e x).drop (a+vs.length))(k:List α->PT os β)(f:Nat.ble (a+vs.length) (Rw.s α)=true:=by kernel_rfl):PT os β:=
 ⟨.cs (Ac Rw.e (xs.set j (Y (xs.getD j Rw.z)))) (k (xs.set j (Y (xs.getD j Rw.z)))).a,λE=>Jq (Ac Rw.e xs) (j*Rw.s α+a) (vs.map .d) (Ac Rw.e (xs.set j (Y (xs.getD j Rw.z))))/\(k (xs.set j (Y (xs.getD j Rw.z)))).q E,xs[j]?.bind λx=>(k (xs.set j (Y x))).m,λE=>∀l,(k l).n E,λE g y hm d=>by
  obtain⟨x,b,c⟩:=bind_some hm;have e:xs.getD j Rw.z=x:=by rw[Yg,b];rfl
  exact⟨Zyw (Yc.1 b).1 Rw.len (Yj f) (he _),by rw[e];exact(k _).ok E (g _) y c d⟩⟩
@[reducible] def rb(j d n:Nat)(xs:List α)(off:Nat)(k:PT os β):PT os β:=⟨.reb j d (xs.drop off).length (Ac Rw.e (xs.drop off)) k.a,
 λE=>(n=(xs.drop off).length/\off*Rw.s α<=(Ac (Rw.e (α:=α)) xs).length/\(Ac Rw.e xs).drop (off*Rw.s α)=Ac Rw.e (xs.drop off))/\k.q E,if n=(xs.drop off).length/\off<=xs.length then k.m else none,k.n,λE c y hm b=>by obtain⟨a,hm⟩:=BB hm;exact⟨xg a.1 a.2 Rw.len,k.ok E c y hm b⟩⟩
end
@[reducible] def Ca(q:Nat)(vs:List AV)(low:∀r:Ren,Ge r (0,q) vs)(k:PT os β)(c:Nat.ble (q+1) os=true:=by kernel_rfl):PT os β:=
 ⟨k.a,λE=>Mj E.r (0,q)/\Ge E.r (0,q) vs/\k.q E,k.m,k.n,λE b y hm a=>⟨⟨rfl,by rw[E.g.no,E.g.κ];exact E.co.W q (Yj c)⟩,low _,k.ok E b y hm a⟩⟩
inductive Bd
 |no
 |nt (n:Nat)
 |it (x:Int)
def Bd.ov:Bd->Option AV
 |.no=>none
 |.nt n=>some (.d (.int .i64 (n:Int)))
 |.it x=>some (.d (.int .i64 x))
def Bd.vl(d:Nat):Bd->Nat
 |.no=>d
 |.nt n=>n
 |.it x=>x.toNat
def Bd.c:Bd->Prop
 |.it x=>0<=x
 |_=>True
instance (b:Bd):Decidable b.c:=by cases b<;>unfold Bd.c<;>infer_instance
theorem Bd.ok{d:Nat}{b:Bd}(h:b.c):Dk d b.ov (b.vl d):=by
 cases b with
 |no=>rfl
 |nt n=>rfl
 |it x=>exact(Int.toNat_of_nonneg h).symm
@[reducible] def ss(s:ByteArray)(lo hi:Bd)(k:ByteArray->PT os β):PT os β:=
 ⟨.nat (lo.vl 0) (.nat (hi.vl s.size) (k (s.extract (lo.vl 0) (hi.vl s.size))).a),λE=>Dk 0 lo.ov (lo.vl 0)/\Dk s.size hi.ov (hi.vl s.size)/\E1 (lo.vl 0) (hi.vl s.size) s.size/\(k (s.extract (lo.vl 0) (hi.vl s.size))).q E,
 if lo.c/\hi.c/\lo.vl 0<=hi.vl s.size/\hi.vl s.size<=s.size then(k (s.extract (lo.vl 0) (hi.vl s.size))).m else none,λE=>∀x,(k x).n E,λE c y hm b=>by obtain⟨a,hm⟩:=BB hm;exact⟨Bd.ok a.1,Bd.ok a.2.1,a.2.2,(k _).ok E (c _) y hm b⟩⟩
@[reducible] def wF(b:Bool)(s:ByteArray)(lo hi:Bd)(k:ByteArray->PT os β):PT os β:=
 ⟨.nat (lo.vl 0) (.nat (hi.vl s.size) (k (s.extract (lo.vl 0) (hi.vl s.size))).a),λE=>(b=true->Dk 0 lo.ov (lo.vl 0))/\(b=true->Dk s.size hi.ov (hi.vl s.size))/\(b=true->E1 (lo.vl 0) (hi.vl s.size) s.size)/\(k (s.extract (lo.vl 0) (hi.vl s.size))).q E,
 if(b=true->lo.c/\hi.c/\lo.vl 0<=hi.vl s.size/\hi.vl s.size<=s.size)then(k (s.extract (lo.vl 0) (hi.vl s.size))).m else none,λE=>∀x,(k x).n E,λE d y hm c=>by obtain⟨a,hm⟩:=BB hm;exact⟨λe=>Bd.ok (a e).1,λe=>Bd.ok (a e).2.1,λe=>(a e).2.2,(k _).ok E (d _) y hm c⟩⟩
section
variable {α:Type} [Rw α]
@[reducible] def sL(xs:List α)(lo hi:Bd)(k:List α->PT os β):PT os β:=
 ⟨.nat (lo.vl 0) (.nat (hi.vl xs.length) (.av (.d (.list (((xs.drop (lo.vl 0)).take (hi.vl xs.length-lo.vl 0)).map Rw.e))) (k ((xs.drop (lo.vl 0)).take (hi.vl xs.length-lo.vl 0))).a)),
 λE=>Dk 0 lo.ov (lo.vl 0)/\Dk (xs.map (Rw.e (α:=α))).length hi.ov (hi.vl xs.length)/\E1 (lo.vl 0) (hi.vl xs.length) (xs.map (Rw.e (α:=α))).length/\OI (xs.map Rw.e) (Rw.s α) (lo.vl 0) (hi.vl xs.length) (((xs.drop (lo.vl 0)).take (hi.vl xs.length-lo.vl 0)).map Rw.e)/\(k ((xs.drop (lo.vl 0)).take (hi.vl xs.length-lo.vl 0))).q E,
 if lo.c/\hi.c/\lo.vl 0<=hi.vl xs.length/\hi.vl xs.length<=xs.length then(k ((xs.drop (lo.vl 0)).take (hi.vl xs.length-lo.vl 0))).m else none,λE=>∀x,(k x).n E,λE c y hm b=>by obtain⟨a,hm⟩:=BB hm;exact⟨Bd.ok a.1,by rw[YF];exact Bd.ok a.2.1,tp a.2.2,s4 Rw.len,(k _).ok E (c _) y hm b⟩⟩
@[reducible] def sLg(b:Bool)(xs:List α)(lo hi:Bd)(k:List α->PT os β):PT os β:=
 ⟨.nat (lo.vl 0) (.nat (hi.vl xs.length) (.av (.d (.list (((xs.drop (lo.vl 0)).take (hi.vl xs.length-lo.vl 0)).map Rw.e))) (k ((xs.drop (lo.vl 0)).take (hi.vl xs.length-lo.vl 0))).a)),
 λE=>(b=true->Dk 0 lo.ov (lo.vl 0))/\(b=true->Dk (xs.map (Rw.e (α:=α))).length hi.ov (hi.vl xs.length))/\(b=true->E1 (lo.vl 0) (hi.vl xs.length) (xs.map (Rw.e (α:=α))).length)/\(b=true->OI (xs.map Rw.e) (Rw.s α) (lo.vl 0) (hi.vl xs.length) (((xs.drop (lo.vl 0)).take (hi.vl xs.length-lo.vl 0)).map Rw.e))/\(k ((xs.drop (lo.vl 0)).take (hi.vl xs.length-lo.vl 0))).q E,
 if(b=true->lo.c/\hi.c/\lo.vl 0<=hi.vl xs.length/\hi.vl xs.length<=xs.length)then(k ((xs.drop (lo.vl 0)).take (hi.vl xs.length-lo.vl 0))).m else none,λE=>∀x,(k x).n E,λE d y hm c=>by obtain⟨a,hm⟩:=BB hm;exact⟨λe=>Bd.ok (a e).1,λe=>by rw[YF];exact Bd.ok (a e).2.1,λe=>tp (a e).2.2,λ_=>s4 Rw.len,(k _).ok E (d _) y hm c⟩⟩
end
@[reducible] def sR(len off:Nat)(lo hi:Bd)(k:PT os β):PT os β:=
 ⟨.nat (lo.vl 0) (.nat (hi.vl len) (.nat (off+lo.vl 0) (.nat (hi.vl len-lo.vl 0) k.a))),λE=>Dk 0 lo.ov (lo.vl 0)/\Dk len hi.ov (hi.vl len)/\E1 (lo.vl 0) (hi.vl len) len/\Xq off (lo.vl 0) (hi.vl len) (off+lo.vl 0) (hi.vl len-lo.vl 0)/\k.q E,
 if lo.c/\hi.c/\lo.vl 0<=hi.vl len/\hi.vl len<=len then k.m else none,k.n,λE c y hm b=>by obtain⟨a,hm⟩:=BB hm;exact⟨Bd.ok a.1,Bd.ok a.2.1,a.2.2,⟨rfl,rfl⟩,k.ok E c y hm b⟩⟩
@[reducible] def A1(n:Nat):Sz:=⟨.num ((n:Nat):Int),λ_=>BJ ((n:Nat):Int) ((n:Nat):Int),λ_=>rfl⟩
@[reducible] def wa(a b:Nat):Sp:=⟨.num ((a+b:Nat):Int),λ_=>Cz .i64 (((a:Nat):Int)+((b:Nat):Int)) ((a+b:Nat):Int),a+b<9223372036854775808,inferInstance,λh _=>fQ ae ae ae⟩
@[reducible] def wm(a b:Nat):Sp:=⟨.num ((a*b:Nat):Int),λ_=>Cz .i64 (((a:Nat):Int)*((b:Nat):Int)) ((a*b:Nat):Int),a*b<9223372036854775808,inferInstance,λh _=>fQ (by simp) ae ae⟩
@[reducible] def wi(x:Int):Sp:=⟨.num x,λ_=>Cz .i64 x x,-9223372036854775808<=x/\x<9223372036854775808,inferInstance,λh _=>fQ rfl h.1 h.2⟩
@[reducible] def wk(i:IntKind)(x:Int):Sz:=⟨.num (i.wrap x),λ_=>Cz i x (i.wrap x),λ_=>rfl⟩
@[reducible] def ir(i len sz:Nat):Sp:=⟨.nat (i*sz),λ_=>MX ((i:Nat):Int) len 0 sz (i*sz),i<len,inferInstance,λh _=>ZND h⟩
@[reducible] def AG(i:Int)(len sz:Nat):Sp:=⟨.nat (i.toNat*sz),λ_=>MX i len 0 sz (i.toNat*sz),0<=i/\i<len,inferInstance,λh _=>Zrj h.1 h.2⟩
@[reducible] def ib(s:ByteArray)(i:Nat)(k:UInt8->PT os β):PT os β:=
 ⟨.num ((s.data.toList.getD i 0).toNat:Nat) (k (s.data.toList.getD i 0)).a,λE=>Kl s (i:Nat) ((s.data.toList.getD i 0).toNat:Nat)/\(k (s.data.toList.getD i 0)).q E,s.data.toList[i]?.bind λx=>(k x).m,λE=>∀x,(k x).n E,λE f y hm d=>by
  obtain⟨x,b,c⟩:=bind_some hm;have e:s.data.toList.getD i 0=x:=by rw[Yg,b];rfl
  have a:=(Yc.1 b).1;exact⟨tx (by simpa using a),by rw[e];exact(k x).ok E (f x) y c d⟩⟩
@[reducible] def Gk(b:Bool)(s:ByteArray)(i:Int)(k:UInt8->PT os β):PT os β:=
 ⟨.num ((s.data.toList.getD i.toNat 0).toNat:Nat) (k (s.data.toList.getD i.toNat 0)).a,λE=>(b=true->Kl s i ((s.data.toList.getD i.toNat 0).toNat:Nat))/\(k (s.data.toList.getD i.toNat 0)).q E,if(b=true->0<=i/\i<s.size)then(k (s.data.toList.getD i.toNat 0)).m else none,λE=>∀x,(k x).n E,λE d y hm c=>by obtain⟨a,hm⟩:=BB hm;exact⟨λe=>sd (a e).1 (a e).2,(k _).ok E (d _) y hm c⟩⟩
@[reducible] def RE(s:ByteArray)(i:Int)(k:UInt8->PT os β):PT os β:=
 ⟨.num ((s.data.toList.getD i.toNat 0).toNat:Nat) (k (s.data.toList.getD i.toNat 0)).a,λE=>Kl s i ((s.data.toList.getD i.toNat 0).toNat:Nat)/\(k (s.data.toList.getD i.toNat 0)).q E,if 0<=i/\i<s.size then(k (s.data.toList.getD i.toNat 0)).m else none,λE=>∀x,(k x).n E,λE c y hm b=>by obtain⟨a,hm⟩:=BB hm;exact⟨sd a.1 a.2,(k _).ok E (c _) y hm b⟩⟩
@[reducible] def ad(a b:ByteArray)(k:ByteArray->PT os β):PT os β:=⟨(k (a++b)).a,λE=>pU a b/\(k (a++b)).q E,if a.size+b.size<=9223372036854775807 then(k (a++b)).m else none,λE=>∀x,(k x).n E,λE e y hm d=>by obtain⟨c,hm⟩:=BB hm;exact⟨c,(k _).ok E (e _) y hm d⟩⟩
@[reducible] def hH(k:IntKind)(x y:Int):Sz:=⟨.num (Du k x y),λ_=>BJ (Du k x y) (Du k x y),λ_=>rfl⟩
@[reducible] def wor(k:IntKind)(x y:Int):Sz:=⟨.num (G5 k x y),λ_=>BJ (G5 k x y) (G5 k x y),λ_=>rfl⟩
@[reducible] def wcp(k:IntKind)(x:Int):Sz:=⟨.num (JJ k x),λ_=>BJ (JJ k x) (JJ k x),λ_=>rfl⟩
def Am(k:IntKind)(x y:Int):Int:=x.fdiv (2^(min y.toNat k.bits))
def n9(k:IntKind)(x y:Int):Int:=k.wrap (x*2^(min y.toNat k.bits))
def oJ(k:IntKind)(x y:Int):Int:=k.wrap (x.tdiv y)
def JC(_:IntKind)(x y:Int):Int:=x.tmod y
@[reducible] def shr(i:IntKind)(x y:Int)(k:PT os β):PT os β:=v2 ⟨.num (Am i x y),λ_=>True,0<=y,inferInstance,λ_ _=>trivial⟩ (λ_=>RU 0 y) (λ_=>BJ (x.fdiv (2^(min y.toNat i.bits))) (Am i x y)) (λh _=>⟨h,rfl⟩) k
@[reducible] def shl(i:IntKind)(x y:Int)(k:PT os β):PT os β:=v2 ⟨.num (n9 i x y),λ_=>True,0<=y,inferInstance,λ_ _=>trivial⟩ (λ_=>RU 0 y) (λ_=>Cz i (x*2^(min y.toNat i.bits)) (n9 i x y)) (λh _=>⟨h,rfl⟩) k
@[reducible] def quo(i:IntKind)(x y:Int)(k:PT os β):PT os β:=v2 ⟨.num (oJ i x y),λ_=>True,y≠0,inferInstance,λ_ _=>trivial⟩ (λ_=>RV y 0) (λ_=>Cz i (x.tdiv y) (oJ i x y)) (λh _=>⟨h,rfl⟩) k
@[reducible] def rem(i:IntKind)(x y:Int)(k:PT os β):PT os β:=v2 ⟨.num (JC i x y),λ_=>True,y≠0,inferInstance,λ_ _=>trivial⟩ (λ_=>RV y 0) (λ_=>BJ (x.tmod y) (JC i x y)) (λh _=>⟨h,rfl⟩) k
structure KC (P:Program) (f:FuncId) (xs:List AV) {γ:Type} (M:Option γ) (e:γ->AV):Prop where
 k:∀l H y,M=some y->Zc0 P f l xs H (λz H'=>z=e y/\H'=H)
 x:∀r,Ao r xs=xs
 e:∀r y,ren r (e y)=e y
@[reducible] def cl{P:Program}{f:FuncId}{xs:List AV}{γ:Type}[Inhabited γ]{M:Option γ}{e:γ->AV}(K:KC P f xs M e)(k:γ->PT os β):PT os β:=
 ⟨.call (e (M.getD default)) [] (k (M.getD default)).a,λE=>Hw P E.l E.r f xs [] (e (M.getD default))/\(k (M.getD default)).q E,M.bind λy=>(k y).m,λE=>∀y,(k y).n E,λE h y hm g=>by
  obtain⟨x,a,c⟩:=bind_some hm;have d:M.getD default=x:=by rw[a];rfl
  rw[d];exact⟨λb _ _=>by rw[K.x,K.e];exact K.k _ b x a,(k x).ok E (h x) y c g⟩⟩
@[reducible] def Ax(b:Bool){P:Program}{f:FuncId}{xs:List AV}{γ:Type}[Inhabited γ]{M:Option γ}{e:γ->AV}(K:KC P f xs M e)(k:γ->PT os β):PT os β:=
 ⟨.call (e (M.getD default)) [] (k (M.getD default)).a,λE=>(b=true->Hw P E.l E.r f xs [] (e (M.getD default)))/\(k (M.getD default)).q E,if(b=true->M.isSome=true)then(k (M.getD default)).m else none,λE=>∀y,(k y).n E,λE j y hm h=>by
  obtain⟨d,hm⟩:=BB hm;refine⟨λi c _ _=>?_,(k _).ok E (j _) y hm h⟩;obtain⟨x,a⟩:=FH.1 (d i);have g:M.getD default=x:=by rw[a];rfl
  rw[K.x,K.e,g];exact K.k _ c x a⟩
theorem KC.nrm{P:Program}{f:FuncId}{xs xs':List AV}{γ:Type}{M:Option γ}{e:γ->AV}(K:KC P f xs M e)(h:∀l H Post,Zc0 P f l xs H Post->Zc0 P f l xs' H Post)(hx:∀r,Ao r xs'=xs'):KC P f xs' M e:=⟨λl H y hm=>h _ _ _ (K.k l H y hm),hx,K.e⟩
end
section
variable {P:Program} {T:Nat->Option TI} {n:Nat} {C:Cx} {τ σ:St} {Q:Exit->St->Prop} {os:Nat} {p:List Nat} {b:Code}
def pa:List Nat->Code->Code
 |[],c=>c
 |i::p,c=>Jc [i] (pa p c)
def ZN1:Code->Bool
 |.seq _ _=>true
 |_=>false
def ZMl(i:Nat):Code->Bool
 |.block j _=>Nat.beq j i
 |_=>false
def nD:Code->Bool
 |.cond _ _ _=>true
 |_=>false
def ZNw:Code->Bool
 |.loop _=>true
 |_=>false
theorem sq(h:LW P n C (pa (0::p) b) τ (λe τ'=>match e with|.normal=>LW P n C (pa (1::p) b) τ' Q|e=>Q e τ'))(hs:ZN1 (pa p b)=true:=by kernel_rfl):LW P n C (pa p b) τ Q:=by
 unfold pa at h;generalize pa p b=c at*;cases c with
 |seq x y=>exact zN h
 |_=>cases hs
def O7(P:Program)(T:Nat->Option TI)(l n os:Nat)(r:Ren):Nat->Code->AT->St->(Exit->St->AT->Prop)->Prop
 |0,_,a,τ,K=>K .normal τ a
 |m+1,.seq x y,a,τ,K=>CT P T l n os r x a τ (λe τ' b=>match e with|.normal=>O7 P T l n os r m y b τ' K|e=>K e τ' b)
 |_,_,_,_,_=>False
def Ot:Nat->Code->Code
 |m+1,.seq _ y=>Ot m y
 |_,c=>c
def up:Nat->List Nat->List Nat
 |0,p=>p
 |m+1,p=>up m (1::p)
def RF:Nat->Code->Bool
 |m+1,.seq _ y=>RF m y
 |0,_=>true
 |_,_=>false
theorem jY:∀(m:Nat) (p:List Nat),RF m (pa p b)=true->Ot m (pa p b)=pa (up m p) b
 |0,p,_=>by show Ot 0 (pa p b)=pa p b;cases pa p b<;>rfl
 |m+1,p,h=>by
  have a:=jY m (1::p);have e:pa (1::p) b=Jc [1] (pa p b):=rfl;show Ot (m+1) (pa p b)=pa (up m (1::p)) b;generalize pa p b=c at*;cases c with
  |seq x y=>
   have e:pa (1::p) b=y:=e;rw[e]at a;exact a h
  |_=>cases h
theorem qO(o:CxOk C)(q:Ba P T)(hm:P.follows .mixedOrders=true){γ:Ad->Nat}{QQ:Exit->St->Prop}(r:∀e σ b,QQ e b->Wk n C σ b->QQ e σ):∀(m:Nat) (c:Code) (a:AT) (τ σ:St) (K:Exit->St->AT->Prop),O7 P T C.l n C.outs (C.r γ) m c a τ K->RG (C.r γ) C.l C.outs [] τ σ->
  (∀τ' d b,K .normal τ' d->RG (C.r γ) C.l C.outs [] τ' b->BL P C.l n C.B (Ot m c) QQ b)->(∀e τ' d b,e≠.normal->K e τ' d->RG (C.r γ) C.l C.outs [] τ' b->QQ e b)->BL P C.l n C.B c QQ σ
 |0,c,a,τ,σ,K,h,f,g,_=>by
  have:=g τ a σ h f;have e:Ot 0 c=c:=by cases c<;>rfl
  grind
 |m+1,c,a,τ,σ,K,h,f,g,p=>by
  cases c with
  |seq x y=>
   refine dZ (Ik (Gx o q hm x a τ σ _ h f) λe b hi=>?_);obtain⟨τ',d,i,j,k,l⟩:=hi;cases e with
   |normal=>exact BL.weak (qO o q hm r m y d τ' i K j k g p) l
   |_=>exact r _ _ _ (p _ _ _ _ (by intro e;cases e) j k) l
  |_=>exact h.elim
variable {β:Type} {Post:AV->List Blk->Prop} {rs:List ResultVar} {L:β->Prop} {y:β}
theorem ZRw{fx:List Nat}(co:COx C os fx)(i:Ba P T)(hm:P.follows .mixedOrders=true){c:Code}(v:PT os β)(h:v.m=some y)(f:HL L y)
  (j:∀r (g:Gd C r),v.n ⟨⟨C.l,r,λ_ _=>False,Post⟩,L,C,_,co,g,rfl⟩) (k:∀l r Q Post,CT P T l n os r c v.a τ (KF T rs os Post)=v.q ⟨l,r,Q,Post⟩:=by intro l r Q P;kernel_rfl):LW P n C c τ (FQ T rs os Post):=
 wS co.ok i hm co.O v.a rs (λr Post=>v.q ⟨C.l,r,λ_ _=>False,Post⟩) (λr Post=>k _ r _ Post) λr a b d e=>v.ok _ (j r ⟨a,b,d,e⟩) y h f
theorem ZQy{fx:List Nat}(co:COx C os fx)(k:Ba P T)(hm:P.follows .mixedOrders=true){c:Code}(v:PT os β)(lf a:Lf)(j:∀τ,FQ T rs os Post .ret τ->Q .ret τ)(h:v.m=some y)(i:HL L y)
  (m:∀r (g:Gd C r),v.n ⟨⟨C.l,r,Q,Post⟩,L,C,_,co,g,rfl⟩) (o:∀l r Q Post,CT P T l n os r c v.a τ (KB T rs os fx r Post lf a Q)=v.q ⟨l,r,Q,Post⟩:=by intro l r Q P;kernel_rfl):LW P n C c τ Q:=
 yj co.ok k hm co.O co.F v.a lf a rs (λr Q Post=>v.q ⟨C.l,r,Q,Post⟩) (o _) j λr b d e f=>v.ok _ (m r ⟨b,d,e,f⟩) y h i
theorem pP{fx:List Nat}(co:COx C os fx)(I:Ba P T)(hm:P.follows .mixedOrders=true)(m:Nat)(v:PT os β)(lf O:Lf)(H:∀τ,FQ T rs os Post .ret τ->Q .ret τ)(M:v.m=some y)(G:HL L y)
  (J:∀r (g:Gd C r),v.n ⟨⟨C.l,r,λe τ'=>match e with|.normal=>LW P n C (pa (up m p) b) τ' Q|e=>Q e τ',Post⟩,L,C,_,co,g,rfl⟩)
  (K:∀l r Q Post,O7 P T l n os r m (pa p b) v.a τ (KB T rs os fx r Post lf O Q)=v.q ⟨l,r,Q,Post⟩:=by intro l r Q P;kernel_rfl) (hl:RF m (pa p b)=true:=by kernel_rfl):LW P n C (pa p b) τ Q:=by
 intro γ σ u F;have s:=v.ok _ (J (C.r γ) ⟨rfl,rfl,rfl,rfl⟩) y M G;rw[<-K]at s;generalize v.a=a at s;rw[<-co.O,<-co.F]at s;refine qO co.ok I hm (QQ:=λe σ=>Is n C (Q e) σ) (λe σ D hi hw=>?_) m _ _ _ _ _ s F (λτ' q D d c=>?_) (λe τ' q D w d c=>?_)
 ·obtain⟨k,t,o,N,f,h,j⟩:=hi;exact⟨k,t,o,N,f,h,hw.trans j⟩
 ·simp only[KB]at d;obtain⟨S,E,R,f,h,j⟩:=Ci (n:=n) co.ok q d c;obtain⟨k,t,o,x,z,A,B⟩:=Ii (n:=n) co.ok f u h;rw[jY m p hl];exact BL.weak (z k o x A) (j.trans B)
 ·cases e with
  |normal=>exact absurd rfl w
  |ret=>exact .of u c (H _ ⟨.inr rfl,q,by rw[<-co.O];exact d⟩)
  |exit i=>
   simp only[KB]at d;obtain⟨S,E,R,f,h,j⟩:=Ci (n:=n) co.ok q d c;obtain⟨k,t,o,x,z,A,B⟩:=Ii (n:=n) co.ok f u h;exact⟨k,t,o,x,z,A,j.trans B⟩
  |_=>exact d.elim
theorem Zi{f:Type}{fx:List Nat}(co:COx C os fx)(k:Ba P T)(hm:P.follows .mixedOrders=true)(m:Nat)(v:PT os β)(lf d:Lf)(j:∀τ,FQ T rs os Post .ret τ->Q .ret τ)(s:v.m=some y)(i:HL L y)(c:f->St)(a:f->Option β)
  (h:∀x y,a x=some y->HL L y->LW P n C (pa (up m p) b) (c x) Q)
  (o:(∀x y,a x=some y->HL L y->LW P n C (pa (up m p) b) (c x) Q)->∀r (g:Gd C r),v.n ⟨⟨C.l,r,λe τ'=>match e with|.normal=>LW P n C (pa (up m p) b) τ' Q|e=>Q e τ',Post⟩,L,C,_,co,g,rfl⟩)
  (q:∀l r Q Post,O7 P T l n os r m (pa p b) v.a τ (KB T rs os fx r Post lf d Q)=v.q ⟨l,r,Q,Post⟩:=by intro l r Q P;kernel_rfl) (hl:RF m (pa p b)=true:=by kernel_rfl):LW P n C (pa p b) τ Q:=
 pP co k hm m v lf d j s i (o h) q hl
theorem bk(i:Nat)(h:LW P n C (pa (0::p) b) τ (λe τ'=>match e with|.exit j=>(match Nat.beq j i with|true=>Q .normal τ'|false=>Q (.exit j) τ')|e=>Q e τ'))(hs:ZMl i (pa p b)=true:=by kernel_rfl):LW P n C (pa p b) τ Q:=by
 unfold pa at h;generalize pa p b=c at*;cases c with
 |block j x=>exact ZtC i x (by rw[show j=i from Ye hs]) h
 |_=>cases hs
theorem cd(x:Bool){f m2:Option β}(hm:(if x=true then f else m2)=some y)(a:f=some y->LW P n C (pa (0::p) b) τ Q)(d:m2=some y->LW P n C (pa (1::p) b) τ Q)(hs:nD (pa p b)=true:=by kernel_rfl)(he:ev τ.s (vt (pa p b))=.d (.bool x):=by kernel_rfl):LW P n C (pa p b) τ Q:=by
 unfold pa at a d;generalize pa p b=c at*;cases c with
 |cond o u v=>exact w9 he (λe=>a (by rw[Ym e]at hm;exact hm)) (λe=>d (by rw[Yk (by rw[e];decide)]at hm;exact hm))
 |_=>cases hs
theorem lo(h:LL P n C (pa (0::p) b) τ Q)(hs:ZNw (pa p b)=true:=by kernel_rfl):LW P n C (pa p b) τ Q:=by
 unfold pa at h;generalize pa p b=c at*;cases c with
 |loop x=>exact wP h
 |_=>cases hs
theorem B1(v:PT os β){fx:List Nat}(co:COx C os fx)(e:v.m=some y)(a:HL L y)(b:∀r (g:Gd C r),v.n ⟨⟨C.l,r,λ_ _=>False,Post⟩,L,C,_,co,g,rfl⟩)(r:Ren)(d:Gd C r)
  (c:∀l r Q Post,Pc T rs os τ v.a Post=v.q ⟨l,r,Q,Post⟩:=by intro l r Q P;kernel_rfl):FQ T rs os Post .normal τ:=
 ⟨.inl rfl,v.a,by rw[c C.l r (λ_ _=>False) Post];exact v.ok _ (b r d) y e a⟩
end
section
variable {σ ξ ρ:Type}
def Aj(B:σ->Option (Lv σ ξ ρ)):Nat->σ->Option (ξ ⊕ ρ)
 |0,_=>none
 |n+1,v=>match B v with
  |some (.nx a)=>Aj B n a
  |some (.ex b)=>some (.inl b)
  |some (.rt y)=>some (.inr y)
  |none=>none
def Ah:Nat:=4611686018427387904
def iG(S:σ->St)(X:ξ->Nat×St)(er:ρ->AV)(bs:ρ->List Blk)(Q:Exit->St->Prop)(Post:AV->List Blk->Prop):Lv σ ξ ρ->Prop
 |.nx v=>Q .normal (S v)
 |.ex b=>Q (.exit (X b).1) (X b).2
 |.rt y=>Post (er y) (bs y)
variable {P:Program} {T:Nat->Option TI} {n:Nat} {C:Cx} {τ:St} {Q:Exit->St->Prop} {rs:List ResultVar} {os:Nat} {c:Code} {Post:AV->List Blk->Prop}
variable {S:σ->St} {X:ξ->Nat×St} {er:ρ->AV} {bs:ρ->List Blk} {B:σ->Option (Lv σ ξ ρ)}
def KL(P:Program)(T:Nat->Option TI)(n:Nat)(C:Cx)(c:Code)(rs:List ResultVar)(os:Nat)(S:σ->St)(X:ξ->Nat×St)(er:ρ->AV)(bs:ρ->List Blk)(B:σ->Option (Lv σ ξ ρ)):Prop:=
 ∀v o,B v=some o->∀(Q:Exit->St->Prop) (Post:AV->List Blk->Prop),(∀τ,FQ T rs os Post .ret τ->Q .ret τ)->HL (iG S X er bs Q Post) o->LW P n C c (S v) Q
theorem ra(g:KL P T n C c rs os S X er bs B)(f:∀τ,FQ T rs os Post .ret τ->Q .ret τ):∀(k:Nat) (v:σ) (o:ξ ⊕ ρ),Aj B k v=some o->
  (∀b,o=.inl b->Q (.exit (X b).1) (X b).2)->(∀y,o=.inr y->Post (er y) (bs y))->LL P n C c (S v) Q
 |0,v,o,h,_,_=>by cases h
 |k+1,v,o,h,d,e=>by
  rw[Aj]at h;refine Zxt ?_;cases a:B v with
  |none=>rw[a]at h;cases h
  |some w=>
   rw[a]at h;refine g v w a _ Post (λτ i=>f τ i) ?_;cases w with
   |nx j=>exact ra g f k j o h d e
   |ex b=>cases h;exact d b rfl
   |rt y=>cases h;exact e y rfl
theorem wo{β:Type}{k:ξ ⊕ ρ->Option β}{N:Nat}{v:σ}{y:β}(i:KL P T n C c rs os S X er bs B)(h:∀τ,FQ T rs os Post .ret τ->Q .ret τ)(hm:(Aj B N v).bind k=some y)
  (f:∀b,k (.inl b)=some y->Q (.exit (X b).1) (X b).2) (g:∀z,k (.inr z)=some y->Post (er z) (bs z)):LL P n C c (S v) Q:=by
 obtain⟨o,d,a⟩:=bind_some hm;exact ra i h N v o d (λb e=>f b (e▸a)) (λz e=>g z (e▸a))
theorem Aw{g:ξ->Option ρ}{N:Nat}{v:σ}{y:ρ}(f:KL P T n C c rs os S X er bs B)(e:∀τ,FQ T rs os Post .ret τ->Q .ret τ)(hm:(Aj B N v).bind (Sum.elim g some)=some y)(d:HL (λy=>Post (er y) (bs y)) y)
  (a:∀b,g b=some y->Q (.exit (X b).1) (X b).2) (hs:S v=τ:=by kernel_rfl):LL P n C c τ Q:=
 hs▸wo f e hm a λz h=>by cases h;exact d
theorem EX{d a:Type}{f:d->St}{h:a->Nat×St}{e:Exit->St->Prop}{g:ξ->Option (Lv d a ρ)}{N:Nat}{v:σ}{y:Lv d a ρ}(l:KL P T n C c rs os S X er bs B)(k:∀τ,FQ T rs os Post .ret τ->Q .ret τ)(hm:(Aj B N v).bind (Sum.elim g λz=>some (.rt z))=some y)(j:HL (iG f h er bs e Post) y)
  (i:∀b,g b=some y->Q (.exit (X b).1) (X b).2) (hs:S v=τ:=by kernel_rfl):LL P n C c τ Q:=
 hs▸wo l k hm i λz m=>by cases m;exact j
end
theorem Cu{P:Program}{T:Nat->Option TI}{n:Nat}{f:FuncId}{fn:Func}{xs:List AV}{γ:Type}{M:Option γ}{e:γ->AV}(d:P.funcs[f]?=some fn)(g:fn.ntmps=n)(b:Ba P T)(rs:List ResultVar)
  (h:∀C:Cx,CO C 0->∀y,M=some y->∀Post:AV->List Blk->Prop,HL (λy=>Post (e y) []) y->LW P n C (pa [] (At fn)) (Ab (DQ 0 xs) []) (FQ T rs 0 Post))
  (hx:∀r,Ao r xs=xs:=by intro r;kernel_rfl) (he:∀r y,ren r (e y)=e y:=by intro r y;kernel_rfl)
  (c:fn.body=some (At fn):=by kernel_rfl) (a:(fn.name== "runtime.NumGoroutine")=false:=by kernel_rfl) (i:fn.results.toList=rs:=by kernel_rfl) (hl:Nat.ble xs.length n=true:=by kernel_rfl):KC P f xs M e:=
 ⟨λl H y hm=>ZqZ rs (At fn) (λ_=>.top) xs d c a g i (Yj hl) b (hx _) λB=>h _ ⟨rK l B _ H,rfl,rfl,λ_ h=>absurd h (Y2 _)⟩ y hm (λz _=>z=e y/\H=H) ⟨rfl,rfl⟩,hx,he⟩
end Go.Eng
