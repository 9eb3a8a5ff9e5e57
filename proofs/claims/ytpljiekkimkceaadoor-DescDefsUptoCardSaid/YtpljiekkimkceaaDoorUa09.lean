import Derived.Test.YtpljiekkimkceaaDoorUa08
import Derived.Test.YtpljiekkimkceaaDoorUa00
namespace Go.Eng
set_option linter.all false
open Go Go.RowKit
abbrev vL{α:Type}(e:α→List D)(xs:List α):AV:=.d (.list (xs.map e))
abbrev vS(s:ByteArray):AV:=.d (.str s)
abbrev vI(x:Int):AV:=.d (.int .i64 x)
abbrev vN(x:Nat):AV:=.d (.int .i64 (x:Int))
abbrev vB(x:Bool):AV:=.d (.bool x)
abbrev nl:Lf:=⟨[],[],[],[]⟩
abbrev pp(n:Nat):Nat×AV:=(n,.ptr (1,n) 0 0)
abbrev kk(d:Nat)(e:EK)(sz:Nat)(c:List AV):Aa×Blk:=((1,d),⟨0,true,e,sz,c⟩)
abbrev nG{α β:Type}:α→List β:=fun _=>[]
theorem nH{α:Type}{p:α→Prop}:∀x,p x→p x:=fun _ h=>h
abbrev cD(l:List D):List AV:=l.map .d
abbrev AP(ls:List Nat):Lf:=⟨ls,[],[],[]⟩
abbrev Al(ls:List Nat)(ks:List (Aa×Bool)):Lf:=⟨ls,ks,[],[]⟩
class Rw (α:Type) where
 e:α→List D
 f:α→List D
 z:α
 s:Nat
 len:∀x,(e x).length=s
 ef:∀x,e x=f x
 s0:s≠0
instance:Rw ByteArray:=⟨Ar,Ar,⟨#[]⟩,1,fun _=>rfl,fun _=>rfl,by decide⟩
instance:Rw Nt:=⟨AE,AE,WI,8,fun _=>rfl,fun _=>rfl,by decide⟩
instance:Rw Fld:=⟨AM,AM,V8,16,fun _=>rfl,fun _=>rfl,by decide⟩
instance:Rw Spn:=⟨BL,BL,Wf,2,fun _=>rfl,fun _=>rfl,by decide⟩
instance:Rw Msg:=⟨Am,Am,V3,5,fun _=>rfl,fun _=>rfl,by decide⟩
instance:Rw Itm:=⟨Eb,Eb,V7,3,fun _=>rfl,fun _=>rfl,by decide⟩
instance:Rw Enm:=⟨Ay,Ay,VA,5,fun _=>rfl,fun _=>rfl,by decide⟩
instance:Rw Mth:=⟨D5,D5,VU,5,fun _=>rfl,fun _=>rfl,by decide⟩
instance:Rw Svc:=⟨Aw,Aw,VD,3,fun _=>rfl,fun _=>rfl,by decide⟩
inductive Lv (σ ξ ρ:Type) where
 |nx (v:σ)
 |ex (b:ξ)
 |rt (y:ρ)
structure En where
 l:Nat
 r:Ren
 Q:Exit→St→Prop
 P:AV→List Blk→Prop
structure Gd (C:Cx) (r:Ren):Prop where
 θ:r.θ=C.θ
 H:r.H0=C.H0
 κ:r.κ=C.κ
 no:r.no=C.no
structure COx (C:Cx) (os:Nat) (fx:List Nat):Prop where
 ok:CxOk C
 O:C.outs=os
 F:C.fx=fx
 W:∀q,q<os→C.no (C.κ (0,q))
abbrev CO(C:Cx)(os:Nat):Prop:=COx C os (FF os)
def HL{β:Type}(L:β→Prop)(y:β):Prop:=L y
structure Ev (os:Nat) (β:Type) where
 E:En
 L:β→Prop
 C:Cx
 fx:List Nat
 co:COx C os fx
 g:Gd C E.r
 hl:E.l=C.l
structure PT (os:Nat) (β:Type) where
 a:AT
 q:En→Prop
 m:Option β
 n:Ev os β→Prop
 ok:∀E:Ev os β,n E→∀y,m=some y→HL E.L y→q E.E
section
variable {os:Nat} {β:Type}
structure Sp where
 w:AT→AT
 p:En→Prop
 c:Prop
 d:Decidable c
 ok:c→∀E,p E
structure Sz where
 w:AT→AT
 p:En→Prop
 ok:∀E,p E
theorem BW{c:Prop}[d:Decidable c]{m:Option β}{y:β}(h:(if c then m else none)=some y):c∧m=some y:=by
 grind
theorem bind_some{γ:Type}{m:Option γ}{k:γ→Option β}{y:β}(h:m.bind k=some y):∃x,m=some x∧k x=some y:=by
 cases m with
 |none=>cases h
 |some x=>exact⟨x,rfl,h⟩
@[reducible] def vs(s:Sp)(k:PT os β):PT os β:=⟨s.w k.a,fun E=>s.p E∧k.q E,@ite _ s.c s.d k.m none,k.n,fun E d y hm c=>by
 obtain⟨a,b⟩:=@BW _ _ s.d _ _ hm
 exact⟨s.ok a E.E,k.ok E d y b c⟩⟩
@[reducible] def vz(s:Sz)(k:PT os β):PT os β:=⟨s.w k.a,fun E=>s.p E∧k.q E,k.m,k.n,fun E b y hm a=>⟨s.ok E.E,k.ok E b y hm a⟩⟩
@[reducible] def vy(b:Bool)(s:Sz)(k:PT os β):PT os β:=⟨s.w k.a,fun E=>(b=true→s.p E)∧k.q E,k.m,k.n,fun E c y hm a=>⟨fun _=>s.ok E.E,k.ok E c y hm a⟩⟩
@[reducible] def v2(s:Sp)(b c:En→Prop)(h:s.c→∀E,b E∧c E)(k:PT os β):PT os β:=⟨s.w k.a,fun E=>b E∧c E∧k.q E,@ite _ s.c s.d k.m none,k.n,fun E f y hm e=>by
 obtain⟨a,d⟩:=@BW _ _ s.d _ _ hm
 exact⟨(h a E.E).1,(h a E.E).2,k.ok E f y d e⟩⟩
@[reducible] def vw(w:AT→AT)(k:PT os β):PT os β:=⟨w k.a,k.q,k.m,k.n,k.ok⟩
@[reducible] def wg(k:PT os β):PT os β:=⟨.go k.a,k.q,k.m,k.n,k.ok⟩
@[reducible] def br(b:Bool)(t f:PT os β):PT os β:=⟨.br t.a f.a,fun E=>(b=true→t.q E)∧(b=false→f.q E),if b=true then t.m else f.m,fun E=>t.n E∧f.n E,fun E c y hm a=>
 ⟨fun e=>t.ok E c.1 y (by rw[Yt e]at hm;exact hm) a,fun e=>f.ok E c.2 y (by rw[Yy (by rw[e];decide)]at hm;exact hm) a⟩⟩
@[reducible] def bT(b:Bool)(t:PT os β):PT os β:=⟨.one true t.a,fun E=>(b=true→t.q E)∧(b=false→False),if b=true then t.m else none,t.n,fun E c y hm a=>by
 obtain⟨h,hm⟩:=BW hm
 exact⟨fun _=>t.ok E c y hm a,fun e=>absurd (h.symm.trans e) (by decide)⟩⟩
@[reducible] def bF(b:Bool)(f:PT os β):PT os β:=⟨.one false f.a,fun E=>(b=true→False)∧(b=false→f.q E),if b=false then f.m else none,f.n,fun E c y hm a=>by
 obtain⟨h,hm⟩:=BW hm
 exact⟨fun e=>absurd (e.symm.trans h) (by decide),fun _=>f.ok E c y hm a⟩⟩
@[reducible] def lf(p:En→Prop)(y:β):PT os β:=⟨.nil,p,some y,fun E=>HL E.L y→p E.E,fun E b z hm a=>b (by cases hm;exact a)⟩
@[reducible] def lc(s:St)(m:Option β):PT os β:=⟨.nil,fun E=>E.Q .normal s,m,fun E=>∀y,m=some y→HL E.L y→E.E.Q .normal s,fun E b y hm a=>b y hm a⟩
@[reducible] def lr(er:β→AV)(bs:β→List Blk)(y:β):PT os β:=lf (fun E=>E.P (er y) (bs y)) y
section
variable {σ ξ ρ:Type}
@[reducible] def Ap(er:ρ→AV)(bs:ρ→List Blk)(y:ρ):PT os (Lv σ ξ ρ):=lf (fun E=>E.P (er y) (bs y)) (.rt y)
@[reducible] def ln(S:σ→St)(v:σ):PT os (Lv σ ξ ρ):=lf (fun E=>E.Q .normal (S v)) (.nx v)
@[reducible] def Aj(X:ξ→Nat×St)(b:ξ):PT os (Lv σ ξ ρ):=lf (fun E=>E.Q (.exit (X b).1) (X b).2) (.ex b)
end
section
variable {α:Type} [Rw α]
@[reducible] def ix(xs:List α)(i:Nat)(k:α→PT os β):PT os β:=
 ⟨.ds (Rw.f (xs.getD i Rw.z)) (k (xs.getD i Rw.z)).a,fun E=>D8 (xs.map Rw.e) ((i:Nat):Int) (Rw.f (xs.getD i Rw.z))∧(k (xs.getD i Rw.z)).q E,xs[i]?.bind fun x=>(k x).m,fun E=>∀x,(k x).n E,fun E d y hm c=>by
  obtain⟨x,a,b⟩:=bind_some hm
  have e:xs.getD i Rw.z=x:=by rw[Yz,a];rfl
  rw[e]
  exact⟨Og a Rw.ef,(k x).ok E (d x) y b c⟩⟩
@[reducible] def Wt(xs:List α)(i:Int)(k:α→PT os β):PT os β:=
 ⟨.ds (Rw.f (xs.getD i.toNat Rw.z)) (k (xs.getD i.toNat Rw.z)).a,fun E=>D8 (xs.map Rw.e) i (Rw.f (xs.getD i.toNat Rw.z))∧(k (xs.getD i.toNat Rw.z)).q E,if 0≤i then xs[i.toNat]?.bind fun x=>(k x).m else none,fun E=>∀x,(k x).n E,fun E g y hm d=>by
  obtain⟨b,hm⟩:=BW hm
  obtain⟨x,a,c⟩:=bind_some hm
  have e:xs.getD i.toNat Rw.z=x:=by rw[Yz,a];rfl
  have f:=(Yg.1 a).1
  exact⟨NM b (by omega) Rw.ef,by rw[e];exact(k x).ok E (g x) y c d⟩⟩
@[reducible] def Bo(b:Bool)(xs:List α)(i:Int)(k:α→PT os β):PT os β:=
 ⟨.ds (Rw.f (xs.getD i.toNat Rw.z)) (k (xs.getD i.toNat Rw.z)).a,fun E=>(b=true→D8 (xs.map Rw.e) i (Rw.f (xs.getD i.toNat Rw.z)))∧(k (xs.getD i.toNat Rw.z)).q E,if(b=true→0≤i∧i<xs.length)then(k (xs.getD i.toNat Rw.z)).m else none,fun E=>∀x,(k x).n E,fun E d y hm c=>by
  obtain⟨a,hm⟩:=BW hm
  exact⟨fun e=>NM (a e).1 (a e).2 Rw.ef,(k _).ok E (d _) y hm c⟩⟩
@[reducible] def ca(xs:List α)(j:Nat)(k:α→PT os β):PT os β:=
 ⟨.cs ((Rw.f (xs.getD j Rw.z)).map .d) (k (xs.getD j Rw.z)).a,fun E=>CW (An Rw.e xs) (j*Rw.s α) ((Rw.f (xs.getD j Rw.z)).map .d)∧(k (xs.getD j Rw.z)).q E,xs[j]?.bind fun x=>(k x).m,fun E=>∀x,(k x).n E,fun E d y hm c=>by
  obtain⟨x,a,b⟩:=bind_some hm
  have e:xs.getD j Rw.z=x:=by rw[Yz,a];rfl
  rw[e]
  exact⟨RK a Rw.len Rw.ef,(k x).ok E (d x) y b c⟩⟩
@[reducible] def Ag(xs:List α):Sz:=⟨.num ((xs.length:Nat):Int),fun _=>AK ((xs.map (Rw.e (α:=α))).length:Nat) ((xs.length:Nat):Int),fun _=>Uf _ _⟩
@[reducible] def fl(xs:List α):Sz:=⟨id,fun _=>Dr (An Rw.e xs),fun _=>EX _ _⟩
@[reducible] def fz(xs:List α):Sz:=⟨id,fun _=>EN (An Rw.e xs) 0 xs.length (Rw.s α) (xs.map Rw.e),fun _=>N4 _ Rw.s0 Rw.len⟩
@[reducible] def fr(xs:List α):Sz:=⟨.av (.d (.list (xs.map Rw.e))),fun _=>EN (An Rw.e xs) 0 xs.length (Rw.s α) (xs.map Rw.e),fun _=>N4 _ Rw.s0 Rw.len⟩
@[reducible] def ap(xs:List α)(y:α)(k:PT os β):PT os β:=⟨.nat 1 (.cs (An Rw.e [y]) (.cs (An Rw.e (xs++[y])) (.nat (xs++[y]).length k.a))),
 fun E=>CI (Rw.s α) [] (.d (.list [Rw.f y])) 1 (An Rw.e [y])∧G8 (An Rw.e xs) 0 xs.length 1 (Rw.s α) 256 (An Rw.e [y]) (An Rw.e (xs++[y])) (xs++[y]).length∧k.q E,
 if xs.length<549755813887 then k.m else none,k.n,fun E b z hm a=>by
  obtain⟨c,hm⟩:=BW hm
  exact⟨M4 _ Rw.len Rw.ef,Nn xs [y] Rw.len rfl rfl (by rw[List.length_singleton];omega),k.ok E b z hm a⟩⟩
@[reducible] def a1(y:α)(k:PT os β):PT os β:=⟨.nat 1 (.cs (An Rw.e [y]) k.a),fun E=>CI (Rw.s α) [] (.d (.list [Rw.f y])) 1 (An Rw.e [y])∧G3 1 256∧k.q E,k.m,k.n,fun E b z hm a=>⟨M4 _ Rw.len Rw.ef,by unfold G3;decide,k.ok E b z hm a⟩⟩
@[reducible] def a0(ys:List α)(k:PT os β):PT os β:=⟨.nat ys.length (.cs (An Rw.e ys) k.a),fun E=>CI (Rw.s α) [] (.d (.list (ys.map Rw.e))) ys.length (An Rw.e ys)∧G3 ys.length 256∧k.q E,if ys.length<549755813888 then k.m else none,k.n,fun E b z hm a=>by
  obtain⟨c,hm⟩:=BW hm
  exact⟨Sd _ _ Rw.len,by unfold G3;omega,k.ok E b z hm a⟩⟩
@[reducible] def ae(xs:List α)(k:PT os β):PT os β:=⟨.nat 0 (.cs [] (.cs (An Rw.e (xs++[])) (.nat (xs++[]).length k.a))),
 fun E=>CI (Rw.s α) [] .e0 0 []∧G8 (An Rw.e xs) 0 xs.length 0 (Rw.s α) 256 [] (An Rw.e (xs++[])) (xs++[]).length∧k.q E,
 if xs.length<549755813888 then k.m else none,k.n,fun E b z hm a=>by
  obtain⟨c,hm⟩:=BW hm
  exact⟨⟨rfl,rfl,rfl⟩,Nn xs [] Rw.len rfl rfl (by simp only[YX];omega),k.ok E b z hm a⟩⟩
@[reducible] def ms(m:Nat)(z:α)(a:List AV)(d:(Rw.e z).map .d=a)(k:PT os β):PT os β:=⟨.nat (List.replicate m z).length (.cs (An Rw.e (List.replicate m z)) k.a),
 fun E=>Mc ((m:Nat):Int) ((m:Nat):Int) 256 (List.replicate m z).length a (An Rw.e (List.replicate m z))∧k.q E,if m≤549755813888 then k.m else none,k.n,fun E c y hm b=>by
  obtain⟨e,hm⟩:=BW hm
  exact⟨⟨by rw[Mq],Int.le_refl _,by omega,by rw[Mq];exact TR d m⟩,k.ok E c y hm b⟩⟩
end
inductive Bd
 |no
 |nt (n:Nat)
 |it (x:Int)
def Bd.ov:Bd→Option AV
 |.no=>none
 |.nt n=>some (.d (.int .i64 (n:Int)))
 |.it x=>some (.d (.int .i64 x))
def Bd.vl(d:Nat):Bd→Nat
 |.no=>d
 |.nt n=>n
 |.it x=>x.toNat
def Bd.c:Bd→Prop
 |.it x=>0≤x
 |_=>True
instance (b:Bd):Decidable b.c:=by cases b<;>unfold Bd.c<;>infer_instance
theorem Bd.ok{d:Nat}{b:Bd}(h:b.c):Cz d b.ov (b.vl d):=by
 cases b with
 |no=>rfl
 |nt n=>rfl
 |it x=>exact(Int.toNat_of_nonneg h).symm
@[reducible] def ss(s:ByteArray)(lo hi:Bd)(k:ByteArray→PT os β):PT os β:=
 ⟨.nat (lo.vl 0) (.nat (hi.vl s.size) (k (s.extract (lo.vl 0) (hi.vl s.size))).a),fun E=>Cz 0 lo.ov (lo.vl 0)∧Cz s.size hi.ov (hi.vl s.size)∧Ek (lo.vl 0) (hi.vl s.size) s.size∧(k (s.extract (lo.vl 0) (hi.vl s.size))).q E,
 if lo.c∧hi.c∧lo.vl 0≤hi.vl s.size∧hi.vl s.size≤s.size then(k (s.extract (lo.vl 0) (hi.vl s.size))).m else none,fun E=>∀x,(k x).n E,fun E c y hm b=>by
  obtain⟨a,hm⟩:=BW hm
  exact⟨Bd.ok a.1,Bd.ok a.2.1,a.2.2,(k _).ok E (c _) y hm b⟩⟩
@[reducible] def wa(a b:Nat):Sp:=⟨.num ((a+b:Nat):Int),fun _=>A7 .i64 (((a:Nat):Int)+((b:Nat):Int)) ((a+b:Nat):Int),a+b<9223372036854775808,inferInstance,fun h _=>OB (by omega) (by omega) (by omega)⟩
@[reducible] def wi(x:Int):Sp:=⟨.num x,fun _=>A7 .i64 x x,-9223372036854775808≤x∧x<9223372036854775808,inferInstance,fun h _=>OB rfl h.1 h.2⟩
@[reducible] def Wr(i:Int)(len sz:Nat):Sp:=⟨.nat (i.toNat*sz),fun _=>IA i len 0 sz (i.toNat*sz),0≤i∧i<len,inferInstance,fun h _=>Sv h.1 h.2⟩
@[reducible] def ad(a b:ByteArray)(k:ByteArray→PT os β):PT os β:=⟨(k (a++b)).a,fun E=>Qd a b∧(k (a++b)).q E,if a.size+b.size≤9223372036854775807 then(k (a++b)).m else none,fun E=>∀x,(k x).n E,fun E e y hm d=>by
  obtain⟨c,hm⟩:=BW hm
  exact⟨c,(k _).ok E (e _) y hm d⟩⟩
def Qb(k:IntKind)(x y:Int):Int:=x.fdiv (2^(min y.toNat k.bits))
def P4(k:IntKind)(x y:Int):Int:=k.wrap (x*2^(min y.toNat k.bits))
def Qk(k:IntKind)(x y:Int):Int:=k.wrap (x.tdiv y)
def Qa(_:IntKind)(x y:Int):Int:=x.tmod y
@[reducible] def shr(i:IntKind)(x y:Int)(k:PT os β):PT os β:=v2 ⟨.num (Qb i x y),fun _=>True,0≤y,inferInstance,fun _ _=>trivial⟩ (fun _=>Hn 0 y) (fun _=>AK (x.fdiv (2^(min y.toNat i.bits))) (Qb i x y)) (fun h _=>⟨h,rfl⟩) k
@[reducible] def shl(i:IntKind)(x y:Int)(k:PT os β):PT os β:=v2 ⟨.num (P4 i x y),fun _=>True,0≤y,inferInstance,fun _ _=>trivial⟩ (fun _=>Hn 0 y) (fun _=>A7 i (x*2^(min y.toNat i.bits)) (P4 i x y)) (fun h _=>⟨h,rfl⟩) k
@[reducible] def quo(i:IntKind)(x y:Int)(k:PT os β):PT os β:=v2 ⟨.num (Qk i x y),fun _=>True,y≠0,inferInstance,fun _ _=>trivial⟩ (fun _=>Ho y 0) (fun _=>A7 i (x.tdiv y) (Qk i x y)) (fun h _=>⟨h,rfl⟩) k
@[reducible] def rem(i:IntKind)(x y:Int)(k:PT os β):PT os β:=v2 ⟨.num (Qa i x y),fun _=>True,y≠0,inferInstance,fun _ _=>trivial⟩ (fun _=>Ho y 0) (fun _=>AK (x.tmod y) (Qa i x y)) (fun h _=>⟨h,rfl⟩) k
structure KC (P:Program) (f:FuncId) (xs:List AV) {γ:Type} (M:Option γ) (e:γ→AV):Prop where
 k:∀l H y,M=some y→ZaR P f l xs H (fun z H'=>z=e y∧H'=H)
 x:∀r,Ab r xs=xs
 e:∀r y,ren r (e y)=e y
@[reducible] def cl{P:Program}{f:FuncId}{xs:List AV}{γ:Type}[Inhabited γ]{M:Option γ}{e:γ→AV}(K:KC P f xs M e)(k:γ→PT os β):PT os β:=
 ⟨.call (e (M.getD default)) [] (k (M.getD default)).a,fun E=>Ez P E.l E.r f xs [] (e (M.getD default))∧(k (M.getD default)).q E,M.bind fun y=>(k y).m,fun E=>∀y,(k y).n E,fun E h y hm g=>by
  obtain⟨x,a,c⟩:=bind_some hm
  have d:M.getD default=x:=by rw[a];rfl
  rw[d]
  exact⟨fun b _ _=>by rw[K.x,K.e];exact K.k _ b x a,(k x).ok E (h x) y c g⟩⟩
@[reducible] def A4(b:Bool){P:Program}{f:FuncId}{xs:List AV}{γ:Type}[Inhabited γ]{M:Option γ}{e:γ→AV}(K:KC P f xs M e)(k:γ→PT os β):PT os β:=
 ⟨.call (e (M.getD default)) [] (k (M.getD default)).a,fun E=>(b=true→Ez P E.l E.r f xs [] (e (M.getD default)))∧(k (M.getD default)).q E,if(b=true→M.isSome=true)then(k (M.getD default)).m else none,fun E=>∀y,(k y).n E,fun E j y hm h=>by
  obtain⟨d,hm⟩:=BW hm
  refine⟨fun i c _ _=>?_,(k _).ok E (j _) y hm h⟩
  obtain⟨x,a⟩:=YP.1 (d i)
  have g:M.getD default=x:=by rw[a];rfl
  rw[K.x,K.e,g];exact K.k _ c x a⟩
theorem KC.nrm{P:Program}{f:FuncId}{xs xs':List AV}{γ:Type}{M:Option γ}{e:γ→AV}(K:KC P f xs M e)(h:∀l H Post,ZaR P f l xs H Post→ZaR P f l xs' H Post)(a:∀r,Ab r xs'=xs'):KC P f xs' M e:=⟨fun l H y hm=>h _ _ _ (K.k l H y hm),a,K.e⟩
end
section
variable {P:Program} {T:Nat→Option TI} {n:Nat} {C:Cx} {τ σ:St} {Q:Exit→St→Prop} {os:Nat} {p:List Nat} {b:Code}
def pa:List Nat→Code→Code
 |[],c=>c
 |i::p,c=>DA [i] (pa p c)
def VM:Code→Bool
 |.seq _ _=>true
 |_=>false
def VH(i:Nat):Code→Bool
 |.block j _=>Nat.beq j i
 |_=>false
def VK:Code→Bool
 |.cond _ _ _=>true
 |_=>false
def VF:Code→Bool
 |.loop _=>true
 |_=>false
theorem sq(h:LW P n C (pa (0::p) b) τ (fun e τ'=>match e with|.normal=>LW P n C (pa (1::p) b) τ' Q|e=>Q e τ'))(hs:VM (pa p b)=true:=by kernel_rfl):LW P n C (pa p b) τ Q:=by
 unfold pa at h
 generalize pa p b=c at*
 cases c with
 |seq x y=>exact UN h
 |_=>cases hs
def ID(P:Program)(T:Nat→Option TI)(l n os:Nat)(r:Ren):Nat→Code→AT→St→(Exit→St→AT→Prop)→Prop
 |0,_,a,τ,K=>K .normal τ a
 |m+1,.seq x y,a,τ,K=>A8 P T l n os r x a τ (fun e τ' b=>match e with|.normal=>ID P T l n os r m y b τ' K|e=>K e τ' b)
 |_,_,_,_,_=>False
def F1:Nat→Code→Code
 |m+1,.seq _ y=>F1 m y
 |_,c=>c
def up:Nat→List Nat→List Nat
 |0,p=>p
 |m+1,p=>up m (1::p)
def IY:Nat→Code→Bool
 |m+1,.seq _ y=>IY m y
 |0,_=>true
 |_,_=>false
theorem OP:∀(m:Nat) (p:List Nat),IY m (pa p b)=true→F1 m (pa p b)=pa (up m p) b
 |0,p,_=>by
  show F1 0 (pa p b)=pa p b
  cases pa p b<;>rfl
 |m+1,p,h=>by
  have a:=OP m (1::p)
  have e:pa (1::p) b=DA [1] (pa p b):=rfl
  show F1 (m+1) (pa p b)=pa (up m (1::p)) b
  generalize pa p b=c at*
  cases c with
  |seq x y=>
   have e:pa (1::p) b=y:=e
   rw[e]at a
   exact a h
  |_=>cases h
theorem MQ(o:CxOk C)(q:AG P T)(hm:P.follows .mixedOrders=true){γ:Aa→Nat}{QQ:Exit→St→Prop}(r:∀e σ b,QQ e b→Wk n C σ b→QQ e σ):∀(m:Nat) (c:Code) (a:AT) (τ σ:St) (K:Exit→St→AT→Prop),ID P T C.l n C.outs (C.r γ) m c a τ K→RG (C.r γ) C.l C.outs [] τ σ→
  (∀τ' d b,K .normal τ' d→RG (C.r γ) C.l C.outs [] τ' b→AI P C.l n C.B (F1 m c) QQ b)→(∀e τ' d b,e≠.normal→K e τ' d→RG (C.r γ) C.l C.outs [] τ' b→QQ e b)→AI P C.l n C.B c QQ σ
 |0,c,a,τ,σ,K,h,f,g,_=>by
  have:=g τ a σ h f
  have e:F1 0 c=c:=by cases c<;>rfl
  grind
 |m+1,c,a,τ,σ,K,h,f,g,p=>by
  cases c with
  |seq x y=>
   refine Kp (Dn (CB o q hm x a τ σ _ h f) fun e b hi=>?_)
   obtain⟨τ',d,i,j,k,l⟩:=hi
   cases e with
   |normal=>exact AI.weak (MQ o q hm r m y d τ' i K j k g p) l
   |_=>exact r _ _ _ (p _ _ _ _ (by intro e;cases e) j k) l
  |_=>exact h.elim
variable {β:Type} {Post:AV→List Blk→Prop} {rs:List ResultVar} {L:β→Prop} {y:β}
theorem Wm{fx:List Nat}(co:COx C os fx)(i:AG P T)(hm:P.follows .mixedOrders=true){c:Code}(v:PT os β)(h:v.m=some y)(f:HL L y)
  (j:∀r (g:Gd C r),v.n ⟨⟨C.l,r,fun _ _=>False,Post⟩,L,C,_,co,g,rfl⟩) (k:∀l r Q Post,A8 P T l n os r c v.a τ (KF T rs os Post)=v.q ⟨l,r,Q,Post⟩:=by intro l r Q P;kernel_rfl):LW P n C c τ (FQ T rs os Post):=
 T3 co.ok i hm co.O v.a rs (fun r Post=>v.q ⟨C.l,r,fun _ _=>False,Post⟩) (fun r Post=>k _ r _ Post) fun r a b d e=>v.ok _ (j r ⟨a,b,d,e⟩) y h f
theorem VZ{fx:List Nat}(co:COx C os fx)(k:AG P T)(hm:P.follows .mixedOrders=true){c:Code}(v:PT os β)(lf a:Lf)(j:∀τ,FQ T rs os Post .ret τ→Q .ret τ)(h:v.m=some y)(i:HL L y)
  (m:∀r (g:Gd C r),v.n ⟨⟨C.l,r,Q,Post⟩,L,C,_,co,g,rfl⟩) (o:∀l r Q Post,A8 P T l n os r c v.a τ (KB T rs os fx r Post lf a Q)=v.q ⟨l,r,Q,Post⟩:=by intro l r Q P;kernel_rfl):LW P n C c τ Q:=
 Ul co.ok k hm co.O co.F v.a lf a rs (fun r Q Post=>v.q ⟨C.l,r,Q,Post⟩) (o _) j fun r b d e f=>v.ok _ (m r ⟨b,d,e,f⟩) y h i
theorem VS{fx:List Nat}(co:COx C os fx)(I:AG P T)(hm:P.follows .mixedOrders=true)(m:Nat)(v:PT os β)(lf O:Lf)(H:∀τ,FQ T rs os Post .ret τ→Q .ret τ)(M:v.m=some y)(G:HL L y)
  (J:∀r (g:Gd C r),v.n ⟨⟨C.l,r,fun e τ'=>match e with|.normal=>LW P n C (pa (up m p) b) τ' Q|e=>Q e τ',Post⟩,L,C,_,co,g,rfl⟩)
  (K:∀l r Q Post,ID P T l n os r m (pa p b) v.a τ (KB T rs os fx r Post lf O Q)=v.q ⟨l,r,Q,Post⟩:=by intro l r Q P;kernel_rfl) (hl:IY m (pa p b)=true:=by kernel_rfl):LW P n C (pa p b) τ Q:=by
 intro γ σ u F
 have s:=v.ok _ (J (C.r γ) ⟨rfl,rfl,rfl,rfl⟩) y M G
 rw[←K]at s
 generalize v.a=a at s
 rw[←co.O,←co.F]at s
 refine MQ co.ok I hm (QQ:=fun e σ=>Is n C (Q e) σ) (fun e σ D hi hw=>?_) m _ _ _ _ _ s F (fun τ' q D d c=>?_) (fun e τ' q D w d c=>?_)
 ·obtain⟨k,t,o,N,f,h,j⟩:=hi
  exact⟨k,t,o,N,f,h,hw.trans j⟩
 ·simp only[KB]at d
  obtain⟨S,E,R,f,h,j⟩:=Bx (n:=n) co.ok q d c
  obtain⟨k,t,o,x,z,A,B⟩:=Gn (n:=n) co.ok f u h
  rw[OP m p hl]
  exact AI.weak (z k o x A) (j.trans B)
 ·cases e with
  |normal=>exact absurd rfl w
  |ret=>exact .of u c (H _ ⟨.inr rfl,q,by rw[←co.O];exact d⟩)
  |exit i=>
   simp only[KB]at d
   obtain⟨S,E,R,f,h,j⟩:=Bx (n:=n) co.ok q d c
   obtain⟨k,t,o,x,z,A,B⟩:=Gn (n:=n) co.ok f u h
   exact⟨k,t,o,x,z,A,j.trans B⟩
  |_=>exact d.elim
theorem bk(i:Nat)(h:LW P n C (pa (0::p) b) τ (fun e τ'=>match e with|.exit j=>(match Nat.beq j i with|true=>Q .normal τ'|false=>Q (.exit j) τ')|e=>Q e τ'))(hs:VH i (pa p b)=true:=by kernel_rfl):LW P n C (pa p b) τ Q:=by
 unfold pa at h
 generalize pa p b=c at*
 cases c with
 |block j x=>exact SW i x (by rw[show j=i from Ya hs]) h
 |_=>cases hs
theorem cd(x:Bool){f g:Option β}(hm:(if x=true then f else g)=some y)(a:f=some y→LW P n C (pa (0::p) b) τ Q)(d:g=some y→LW P n C (pa (1::p) b) τ Q)(hs:VK (pa p b)=true:=by kernel_rfl)(he:ev τ.s (UM (pa p b))=.d (.bool x):=by kernel_rfl):LW P n C (pa p b) τ Q:=by
 unfold pa at a d
 generalize pa p b=c at*
 cases c with
 |cond o u v=>exact T1 he (fun e=>a (by rw[Yt e]at hm;exact hm)) (fun e=>d (by rw[Yy (by rw[e];decide)]at hm;exact hm))
 |_=>cases hs
theorem lo(h:LL P n C (pa (0::p) b) τ Q)(hs:VF (pa p b)=true:=by kernel_rfl):LW P n C (pa p b) τ Q:=by
 unfold pa at h
 generalize pa p b=c at*
 cases c with
 |loop x=>exact Ue h
 |_=>cases hs
end
section
variable {σ ξ ρ:Type}
def Av(B:σ→Option (Lv σ ξ ρ)):Nat→σ→Option (ξ ⊕ ρ)
 |0,_=>none
 |n+1,v=>match B v with
  |some (.nx a)=>Av B n a
  |some (.ex b)=>some (.inl b)
  |some (.rt y)=>some (.inr y)
  |none=>none
def At:Nat:=4611686018427387904
def Ma(S:σ→St)(X:ξ→Nat×St)(er:ρ→AV)(bs:ρ→List Blk)(Q:Exit→St→Prop)(Post:AV→List Blk→Prop):Lv σ ξ ρ→Prop
 |.nx v=>Q .normal (S v)
 |.ex b=>Q (.exit (X b).1) (X b).2
 |.rt y=>Post (er y) (bs y)
variable {P:Program} {T:Nat→Option TI} {n:Nat} {C:Cx} {τ:St} {Q:Exit→St→Prop} {rs:List ResultVar} {os:Nat} {c:Code} {Post:AV→List Blk→Prop}
variable {S:σ→St} {X:ξ→Nat×St} {er:ρ→AV} {bs:ρ→List Blk} {B:σ→Option (Lv σ ξ ρ)}
def KL(P:Program)(T:Nat→Option TI)(n:Nat)(C:Cx)(c:Code)(rs:List ResultVar)(os:Nat)(S:σ→St)(X:ξ→Nat×St)(er:ρ→AV)(bs:ρ→List Blk)(B:σ→Option (Lv σ ξ ρ)):Prop:=
 ∀v o,B v=some o→∀(Q:Exit→St→Prop) (Post:AV→List Blk→Prop),(∀τ,FQ T rs os Post .ret τ→Q .ret τ)→HL (Ma S X er bs Q Post) o→LW P n C c (S v) Q
theorem MM(g:KL P T n C c rs os S X er bs B)(f:∀τ,FQ T rs os Post .ret τ→Q .ret τ):∀(k:Nat) (v:σ) (o:ξ ⊕ ρ),Av B k v=some o→
  (∀b,o=.inl b→Q (.exit (X b).1) (X b).2)→(∀y,o=.inr y→Post (er y) (bs y))→LL P n C c (S v) Q
 |0,v,o,h,_,_=>by cases h
 |k+1,v,o,h,d,e=>by
  rw[Av]at h
  refine Ti ?_
  cases a:B v with
  |none=>rw[a]at h;cases h
  |some w=>
   rw[a]at h
   refine g v w a _ Post (fun τ i=>f τ i) ?_
   cases w with
   |nx j=>exact MM g f k j o h d e
   |ex b=>cases h;exact d b rfl
   |rt y=>cases h;exact e y rfl
theorem Qn{β:Type}{k:ξ ⊕ ρ→Option β}{N:Nat}{v:σ}{y:β}(i:KL P T n C c rs os S X er bs B)(h:∀τ,FQ T rs os Post .ret τ→Q .ret τ)(hm:(Av B N v).bind k=some y)
  (f:∀b,k (.inl b)=some y→Q (.exit (X b).1) (X b).2) (g:∀z,k (.inr z)=some y→Post (er z) (bs z)):LL P n C c (S v) Q:=by
 obtain⟨o,d,a⟩:=bind_some hm
 exact MM i h N v o d (fun b e=>f b (e▸a)) (fun z e=>g z (e▸a))
theorem Bu{g:ξ→Option ρ}{N:Nat}{v:σ}{y:ρ}(f:KL P T n C c rs os S X er bs B)(e:∀τ,FQ T rs os Post .ret τ→Q .ret τ)(hm:(Av B N v).bind (Sum.elim g some)=some y)(d:HL (fun y=>Post (er y) (bs y)) y)
  (a:∀b,g b=some y→Q (.exit (X b).1) (X b).2) (hs:S v=τ:=by kernel_rfl):LL P n C c τ Q:=
 hs▸Qn f e hm a fun z h=>by cases h;exact d
theorem IZ{d a:Type}{f:d→St}{h:a→Nat×St}{e:Exit→St→Prop}{g:ξ→Option (Lv d a ρ)}{N:Nat}{v:σ}{y:Lv d a ρ}(l:KL P T n C c rs os S X er bs B)(k:∀τ,FQ T rs os Post .ret τ→Q .ret τ)(hm:(Av B N v).bind (Sum.elim g fun z=>some (.rt z))=some y)(j:HL (Ma f h er bs e Post) y)
  (i:∀b,g b=some y→Q (.exit (X b).1) (X b).2) (hs:S v=τ:=by kernel_rfl):LL P n C c τ Q:=
 hs▸Qn l k hm i fun z m=>by cases m;exact j
end
theorem FW{P:Program}{T:Nat→Option TI}{n:Nat}{f:FuncId}{fn:Func}{xs:List AV}{γ:Type}{M:Option γ}{e:γ→AV}(g:P.funcs[f]?=some fn)(i:fn.ntmps=n)(c:AG P T)(rs:List ResultVar)
  (h:∀C:Cx,CO C 0→∀y,M=some y→∀Post:AV→List Blk→Prop,HL (fun y=>Post (e y) []) y→LW P n C (pa [] (AH fn)) (Ac (BJ 0 xs) []) (FQ T rs 0 Post))
  (b:∀r,Ab r xs=xs:=by intro r;kernel_rfl) (he:∀r y,ren r (e y)=e y:=by intro r y;kernel_rfl)
  (d:fn.body=some (AH fn):=by kernel_rfl) (a:(fn.name== "runtime.NumGoroutine")=false:=by kernel_rfl) (j:fn.results.toList=rs:=by kernel_rfl) (hl:Nat.ble xs.length n=true:=by kernel_rfl):KC P f xs M e:=
 ⟨fun l H y hm=>Rz rs (AH fn) (fun _=>.top) xs g d a i j (Yf hl) c (b _) fun B=>h _ ⟨Nm l B _ H,rfl,rfl,fun _ h=>absurd h (Hv _)⟩ y hm (fun z _=>z=e y∧H=H) ⟨rfl,rfl⟩,b,he⟩
end Go.Eng
namespace Go.Eng
set_option linter.all false
open Go Go.RowKit
def BO:Nat→List Blk→List (Aa×Blk)
 |_,[]=>[]
 |i,b::bs=>((0,i),b)::BO (i+1) bs
abbrev Cl:=(Aa→Prop)→Nat→Hp→(Nat→AV)→Prop
structure KO (P:Program) (f:FuncId) (os:Nat) (ys:List AV) (bi:List Blk) (Θ:Cl) {γ:Type} (M:Option γ) (e:γ→AV) (bs:γ→List Blk):Prop where
 k:∀l H (ks:List Aa) (gs:List Nat) (θ:Nat→AV),ks.length=os→DX l ks→ks.Nodup→Ej H (A0 l ks gs θ H) (BO 0 bi) 0 ks→Θ (fun k=>k∈ks) l H θ→∀y,M=some y→
  ZaR P f l (Ab (A0 l ks gs θ H) ys) H (fun z H'=>z=ren (A0 l ks gs θ H) (e y)∧H'=BC H ks (Bh (A0 l ks gs θ H) 0 (bs y)))
mutual
def EJ(os:Nat):AV→Bool
 |.ref k _ _ _=>Nat.beq k.1 0&&Nat.ble (k.2+1) os
 |.ptr k _ _=>Nat.beq k.1 0&&Nat.ble (k.2+1) os
 |.mp k _=>Nat.beq k.1 0&&Nat.ble (k.2+1) os
 |.fn f xs ys=>(match f with|.yield _=>false|_=>true)&&DY os xs&&DY os ys
 |.agg xs=>DY os xs
 |.tup xs=>DY os xs
 |.top=>true
 |.d _=>true
 |.e0=>true
 |.p _=>true
 |.iptr _ _=>true
 |.ifc _ _ _=>true
def DY(os:Nat):List AV→Bool
 |[]=>true
 |x::xs=>EJ os x&&DY os xs
end
def GN(os:Nat)(r a:Ren):Prop:=∀q,q<os→r.κ (0,q)=a.κ (0,q)∧r.γ (0,q)=a.γ (0,q)
theorem KH{os:Nat}{r c:Ren}(hs:GN os r c){k:Aa}(h:(Nat.beq k.1 0&&Nat.ble (k.2+1) os)=true):r.κ k=c.κ k∧r.γ k=c.γ k:=by
 simp only[Ye]at h
 obtain⟨a,b⟩:=k
 have d:=Ya h.1
 have e:=Yf h.2
 simp only at d e
 subst d
 exact hs b e
mutual
theorem Od{os:Nat}{r c:Ren}(hs:GN os r c):∀x:AV,EJ os x=true→ren r x=ren c x
 |.ref k g off n,h=>by obtain⟨a,b⟩:=KH hs h;simp only[ren,a,b]
 |.ptr k g off,h=>by obtain⟨a,b⟩:=KH hs h;simp only[ren,a,b]
 |.mp k g,h=>by obtain⟨a,b⟩:=KH hs h;simp only[ren,a,b]
 |.fn f xs ys,h=>by
  simp only[EJ,Ye]at h
  have a:=Fb hs xs h.1.2
  have b:=Fb hs ys h.2
  cases f<;>first|(simp only[ren,a,b];done)|(simp at h)
 |.agg xs,h=>by simp only[EJ]at h;simp only[ren,Fb hs xs h]
 |.tup xs,h=>by simp only[EJ]at h;simp only[ren,Fb hs xs h]
 |.top,_=>by simp[ren]
 |.d _,_=>by simp[ren]
 |.e0,_=>by simp[ren]
 |.p _,_=>by simp[ren]
 |.iptr _ _,_=>by simp[ren]
 |.ifc _ _ _,_=>by simp[ren]
theorem Fb{os:Nat}{r a:Ren}(hs:GN os r a):∀xs:List AV,DY os xs=true→Ab r xs=Ab a xs
 |[],_=>by simp[Ab]
 |x::xs,h=>by
  simp only[DY,Ye]at h
  simp only[Ab,Od hs x h.1,Fb hs xs h.2]
end
def C6(os:Nat):List Blk→Prop
 |[]=>True
 |b::bs=>(Dr b.cells∨DY os b.cells=true)∧b.live=true∧C6 os bs
theorem C6.ren{os:Nat}{r a:Ren}(hs:GN os r a):∀(bs:List Blk) (i:Nat),i+bs.length≤os→C6 os bs→Bh r i bs=Bh a i bs
 |[],_,_,_=>rfl
 |b::bs,i,hl,h=>by
  simp only[YQ]at hl
  have d:Ab r b.cells=Ab a b.cells:=by
   rcases h.1 with c|e
   ·rw[Ep c,Ep c]
   ·exact Fb hs _ e
  simp only[Bh,C6.ren hs bs (i+1) (by omega) h.2.2,Ah,d,(hs i (by omega)).2]
theorem C6.live{os:Nat}:∀{bs:List Blk},C6 os bs→∀b∈bs,b.live=true
 |c::bs,h,b,a=>by
  rcases YG.1 a with rfl|a
  ·exact h.2.1
  ·exact C6.live h.2.2 b a
theorem Il:Dr []:=fun x a=>by cases a
theorem Wu{P:Program}{T:Nat→Option TI}{n:Nat}{f:FuncId}{fn:Func}{ys:List AV}{bi:List Blk}{Θ:Cl}{γ:Type}{M:Option γ}{e:γ→AV}{bs:γ→List Blk}(J:P.funcs[f]?=some fn)(K:fn.ntmps=n)(G:AG P T)(u:List ResultVar)(os:Nat)
  (h:∀C:Cx,CO C os→Θ C.no C.l C.H0 C.θ→∀y,M=some y→∀a:AV→List Blk→Prop,HL (fun y=>a (e y) (bs y)) y→LW P n C (pa [] (AH fn)) (Ac (BJ 0 ys) (BO 0 bi)) (FQ T u os a))
  (he:∀y,EJ os (e y)=true:=by intro y;kernel_rfl) (v:∀y,C6 os (bs y):=by intro y;repeat(first|exact trivial|refine⟨.inl (EX _ _),rfl,?_⟩|refine⟨.inl Il,rfl,?_⟩|refine⟨.inr (by kernel_rfl),rfl,?_⟩)) (hl:∀y,(bs y).length=os:=by intro y;rfl) (o:D2 os (BO 0 bi)=true:=by kernel_rfl)
  (I:fn.body=some (AH fn):=by kernel_rfl) (c:(fn.name== "runtime.NumGoroutine")=false:=by kernel_rfl) (d:fn.results.toList=u:=by kernel_rfl) (N:Nat.ble ys.length n=true:=by kernel_rfl):KO P f os ys bi Θ M e bs:=
 ⟨fun l H ks g θ p i t E O y hy=>by
  have w:∀r,DJ l ks g r→GN os r (A0 l ks g θ H):=fun r d q L=>by
   obtain⟨x,A⟩:=d
   exact⟨congrFun x _,A q (by omega)⟩
  refine Q9 u (AH fn) ks g os θ ys (BO 0 bi) (e y) (bs y) (Y':=ren (A0 l ks g θ H) (e y)) (bs':=Bh (A0 l ks g θ H) 0 (bs y)) J I c K d (by rw[Bc];exact Yf N) G p i t o E rfl (hl y) (v y).live
   (fun r d=>Od (w r d) _ (he y)) (fun r d=>C6.ren (w r d) _ _ (by rw[hl];omega) (v y)) (fun C B F D s m Q R j=>?_) ⟨rfl,rfl⟩
  refine h C ⟨B,F,D,fun q L=>?_⟩ (by rw[j,s,m,Q];exact O) y hy (fun z b=>z=e y∧b=bs y) ⟨rfl,rfl⟩
  rw[j,R]
  show(match AY ks q with|some k=>k|none=>(0,0))∈ks
  rw[B1,Yb (by omega)]
  exact List.getElem_mem _⟩
def D6(r:Ren):List (Aa×Blk)→List Nat
 |[]=>[]
 |(k,b)::a=>(r.γ k+b.g)::D6 r a
def BE(r a:Ren):Nat→List Blk→List (Aa×Blk)→Prop
 |i,b::bs,(k,c)::cs=>(b.live=true→c.live=true∧Ah r (0,i) b=Ah a k c)∧r.γ (0,i)+b.g=a.γ k+c.g∧BE r a (i+1) bs cs
 |_,[],[]=>True
 |_,_,_=>False
def Ew:List Aa→Bool
 |[]=>true
 |k::ks=>!(ks.any (AJ k))&&Ew ks
theorem HH{κ:Aa→Aa}{os:Nat}(a:∀q k:Aa,AQ os q=true→AQ os k=true→q≠k→κ q≠κ k):∀(ks:List Aa),Ew ks=true→ks.all (AQ os)=true→(ks.map κ).Nodup
 |[],_,_=>List.nodup_nil
 |k::ks,h,b=>by
  simp only[Ew,Ye,Y4]at h
  simp only[Eo,Ye]at b
  rw[YK,List.nodup_cons]
  refine⟨fun hm=>?_,HH a ks h.2 b.2⟩
  obtain⟨q,d,e⟩:=YD.1 hm
  have c:q≠k:=fun e'=>H7 h.1 (e'▸d)
  grind
section
variable {P:Program} {f:FuncId} {os os':Nat} {ys:List AV} {bi:List Blk} {Θ:Cl} {γ:Type} {M:Option γ} {e:γ→AV} {bs:γ→List Blk} {C:Cx} {r:Ren} {xs:List AV} {x:AV} {y:γ}
theorem KZ{fx:List Nat}(co:COx C os' fx)(g:Gd C r):∀q k:Aa,AQ os' q=true→AQ os' k=true→q≠k→r.κ q≠r.κ k:=by
 intro q k m j l he
 rw[g.κ]at he
 rcases DP m with e|⟨e,h⟩<;>rcases DP j with f|⟨f,i⟩
 ·obtain⟨a,b⟩:=q
  obtain⟨c,d⟩:=k
  simp only at e f
  subst e;subst f
  rw[co.ok.own,co.ok.own]at he
  grind
 ·obtain⟨a,b⟩:=q
  obtain⟨c,d⟩:=k
  simp only at e f i
  subst e;subst f
  rw[co.ok.own]at he
  have:=co.ok.out d (by rw[co.O];exact i)
  grind
 ·obtain⟨a,b⟩:=q
  obtain⟨c,d⟩:=k
  simp only at e h f
  subst e;subst f
  rw[co.ok.own]at he
  have:=co.ok.out b (by rw[co.O];exact h)
  grind
 ·obtain⟨a,b⟩:=q
  obtain⟨c,d⟩:=k
  simp only at e h f i
  subst e;subst f
  have:=co.ok.inj b d (by rw[co.O];exact h) (by rw[co.O];exact i) he
  grind
theorem GB{fx:List Nat}(co:COx C os' fx)(g:Gd C r):∀(ks:List Aa),ks.all (AQ os')=true→DX (C.l+1) (ks.map r.κ)
 |[],_=>trivial
 |k::ks,h=>by
  simp only[Eo,Ye]at h
  refine⟨?_,GB co g ks h.2⟩
  rw[g.κ]
  obtain⟨a,b⟩:=k
  rcases DP h.1 with c|⟨c,d⟩
  ·simp only at c;subst c;rw[co.ok.own];exact Yc _
  ·simp only at c d;subst c;exact Jv (co.ok.out b (by rw[co.O];exact d))
theorem HZ:∀(bi:List Blk) (i j:Nat),Ae (BO i bi) (0,i+j)=(bi[j]?).getD Ck
 |[],i,j=>by simp[BO,Ae]
 |b::bi,i,0=>by simp[BO,Ae,AJ]
 |b::bi,i,j+1=>by
  have a:=HZ bi (i+1) j
  simp only[BO,Ae]
  have:AJ (0,i) (0,i+(j+1))=false:=by
   simp only[AJ,Mp]
   right
   cases h:Nat.beq i (i+(j+1))with
   |false=>rfl
   |true=>have:=Ya h;omega
  grind
theorem Ik{l:Ren}{d:Hp}:∀(bi:List Blk) (a:List (Aa×Blk)) (i:Nat) (B:List Blk),(∀j,Ae (BO 0 B) (0,i+j)=(bi[j]?).getD Ck)→BE l r i bi a→
  (∀p∈a,(d (r.κ p.1)).g=r.γ p.1+p.2.g∧(p.2.live=true→d (r.κ p.1)=Ah r p.1 p.2))→Ej d l (BO 0 B) i ((a.map (·.1)).map r.κ)
 |[],[],i,B,_,_,_=>trivial
 |b::bi,(k,c)::a,i,B,f,h,g=>by
  have e:=f 0
  simp only[YZ,YM,CR]at e
  obtain⟨o,q,m⟩:=h
  refine⟨?_,Ik bi a (i+1) B (fun j=>?_) m fun p n=>g p (Yw _ n)⟩
  ·rw[e]
   have s:=g _ (YC ..)
   grind
  ·have:=f (j+1)
   grind
 |[],_::_,_,_,_,h,_=>h.elim
 |_::_,[],_,_,_,h,_=>h.elim
theorem Rx{H:Hp}{k:Aa}:updH H k (H k)=H:=by
 funext q
 by_cases h:q=k
 ·subst h;exact Ai ..
 ·exact Af _ _ h
theorem Kd{g:Ren}{d:Hp}:∀(bi:List Blk) (a:List (Aa×Blk)) (i:Nat),BE g r i bi a→(∀b∈bi,b.live=true)→(∀p∈a,p.2.live=true→d (r.κ p.1)=Ah r p.1 p.2)→BC d ((a.map (·.1)).map r.κ) (Bh g i bi)=d
 |[],[],_,_,_,_=>rfl
 |b::bi,(k,c)::a,i,h,hl,f=>by
  obtain⟨l,q,m⟩:=h
  have e:=l (hl b (YC ..))
  have j:=f _ (YC ..) e.1
  simp only[YK,BC,Bh]
  rw[e.2,←j,Rx]
  exact Kd bi a (i+1) m (fun b n=>hl b (Yw _ n)) fun p o=>f p (Yw _ o)
 |[],_::_,_,h,_,_=>h.elim
 |_::_,[],_,h,_,_=>h.elim
theorem NZ{j:Ren}:∀(d:List Blk) (f a:List (Aa×Blk)) (i:Nat) (g:Hp),BE j r i d a→(∀b∈d,b.live=true)→f.map (·.1)=a.map (·.1)→BC g ((f.map (·.1)).map r.κ) (Bh j i d)=Bz r a g
 |[],[],[],_,_,_,_,_=>rfl
 |[],_::_,[],_,_,_,_,h=>by cases h
 |b::d,[],_::_,_,_,_,_,h=>by cases h
 |b::d,(k,c)::f,(q,o)::a,i,g,h,hl,he=>by
  obtain⟨l,p,m⟩:=h
  simp only[YK,List.cons.injEq]at he
  obtain⟨rfl,he⟩:=he
  have e:=l (hl b (YC ..))
  simp only[YK,BC,Bh,Bz]
  rw[e.2]
  exact NZ d f a (i+1) _ m (fun b n=>hl b (Yw _ n)) he
 |_::_,_,[],_,_,h,_,_=>h.elim
 |[],_,_::_,_,_,h,_,_=>h.elim
def rC(C:Cx)(r:Ren)(a:List (Aa×Blk))(θ:Nat→AV)(H:Hp):Ren:=A0 (C.l+1) ((a.map (·.1)).map r.κ) (D6 r a) θ H
def Th(Θ:Cl)(C:Cx)(r:Ren)(b c:List (Aa×Blk))(θ:Nat→AV):Prop:=
 ∀a,(∀p∈c,(a (r.κ p.1)).g=r.γ p.1+p.2.g∧(p.2.live=true→a (r.κ p.1)=Ah r p.1 p.2))→(∀k:Aa,k.1≤C.l→¬r.no k→a k=r.H0 k)→Θ (fun k=>k∈(b.map (·.1)).map r.κ) (C.l+1) a θ
theorem EW(K:KO P f os ys bi Θ M e bs)(hy:M=some y){fx:List Nat}(co:COx C os' fx)(g:Gd C r)(a k:List (Aa×Blk))(θ:Nat→AV)(G:Th Θ C r a (a++k) θ)(l:∀H,BE (rC C r a θ H) r 0 bi a)(t:bs y=bi:=by rfl)(n:bi.all Blk.live=true:=by kernel_rfl)(i:(a++k).all (fun p=>p.2.live)=true:=by kernel_rfl)(F:∀H,Ab (rC C r a θ H) ys=Ab r xs:=by intro H;kernel_rfl)(u:∀H,ren (rC C r a θ H) (e y)=ren r x:=by intro H;kernel_rfl)
  (m:((a.map (·.1)).all (AQ os')&&Ew (a.map (·.1))&&Nat.beq a.length os)=true:=by kernel_rfl):Ez P C.l r f xs (a++k) x:=by
 intro d v D
 have s:∀b∈bi,b.live=true:=fun b E=>Yo.1 n b E
 have o:∀p∈a++k,p.2.live=true:=fun p c=>Yo.1 i p c
 have h:∀p∈a,p∈a++k:=fun p c=>EQ _ c
 simp only[Ye]at m
 have q:∀p∈a++k,(d (r.κ p.1)).g=r.γ p.1+p.2.g∧(p.2.live=true→d (r.κ p.1)=Ah r p.1 p.2):=fun p c=>⟨by rw[v p c (o p c)];rfl,v p c⟩
 have:=K.k (C.l+1) d ((a.map (fun p:Aa×Blk=>p.1)).map r.κ) (D6 r a) θ (by rw[Ym,Ym];exact Ya m.2) (GB co g _ m.1.1) (HH (KZ co g) _ m.1.2 m.1.1)
  (Ik bi a 0 bi (fun j=>by have:=HZ bi 0 j;rwa [YH]at this⊢) (l d) fun p c=>q p (h p c)) (G d q D) y hy
 rw[←F d]
 refine this.mono fun z w ⟨A,B⟩=>⟨A.trans (u d),B.trans ?_⟩
 rw[t]
 exact Kd bi a 0 (l d) s fun p c hl=>(q p (h p c)).2 hl
theorem Tq(K:KO P f os ys bi Θ M e bs)(hy:M=some y){fx:List Nat}(co:COx C os' fx)(g:Gd C r)(a m c:List (Aa×Blk))(θ:Nat→AV)(E:Th Θ C r a (a++m) θ)
  (n:∀H,BE (rC C r a θ H) r 0 bi a) (h:∀H,BE (rC C r a θ H) r 0 (bs y) c) (k:(bs y).all Blk.live=true:=by kernel_rfl) (D:∀H,Ab (rC C r a θ H) ys=Ab r xs:=by intro H;kernel_rfl) (s:∀H,ren (rC C r a θ H) (e y)=ren r x:=by intro H;kernel_rfl)
  (i:((a.map (·.1)).all (AQ os')&&Ew (a.map (·.1))&&Nat.beq a.length os)=true:=by kernel_rfl) (he:a.map (·.1)=c.map (·.1):=by rfl):EA P C.l r f xs (a++m) x c []:=by
 have o:∀b∈bs y,b.live=true:=fun b B=>Yo.1 k b B
 have l:∀p∈a,p∈a++m:=fun p q=>EQ _ q
 refine SQ rfl rfl fun d t A=>?_
 simp only[Ye]at i
 have:=K.k (C.l+1) d ((a.map (fun p:Aa×Blk=>p.1)).map r.κ) (D6 r a) θ (by rw[Ym,Ym];exact Ya i.2) (GB co g _ i.1.1) (HH (KZ co g) _ i.1.2 i.1.1)
  (Ik bi a 0 bi (fun j=>by have:=HZ bi 0 j;rwa [YH]at this⊢) (n d) fun p q=>t p (l p q)) (E d t A) y hy
 rw[←D d]
 exact this.mono fun z u ⟨v,w⟩=>⟨v.trans (s d),w.trans (NZ (bs y) a c 0 d (h d) o he)⟩
end
structure CloM (P:Program) (C:Cx) (i:Nat) (xs:List AV) {γ:Type} (M:Option γ) (e:γ→AV):Prop where
 k:∀y,M=some y→D0 P C.l C.no C.H0 (C.θ i) xs (e y)
 x:∀r,Ab r xs=xs
 e:∀r y,ren r (e y)=e y
section
variable {os:Nat} {β γ:Type} [Inhabited γ]
theorem CloM.callF{P:Program}{i:Nat}{xs:List AV}{M:Option γ}{e:γ→AV}(E:Ev os β)(h:CloM P E.C i xs M e){y:γ}(hy:M=some y):GH P E.E.l E.E.r i xs [] (e y):=
 S6 (congrFun E.g.θ i) (by rw[E.hl,E.g.no,E.g.H];exact h.k y hy) (h.x _) (h.e _ _)
@[reducible] def cf(P:Program)(i:Nat)(xs:List AV)(M:Option γ)(e:γ→AV)(k:γ→PT os β):PT os β:=
 ⟨.call (e (M.getD default)) [] (k (M.getD default)).a,fun E=>GH P E.l E.r i xs [] (e (M.getD default))∧(k (M.getD default)).q E,M.bind fun y=>(k y).m,fun E=>CloM P E.C i xs M e∧∀y,(k y).n E,fun E b y hm f=>by
  obtain⟨x,a,c⟩:=bind_some hm
  have d:M.getD default=x:=by rw[a];rfl
  rw[d]
  exact⟨b.1.callF E a,(k x).ok E (b.2 x) y c f⟩⟩
@[reducible] def cs(P:Program)(f:FuncId)(xs:List AV)(ks:List Aa)(b:List (Aa×Blk))(M:Option γ)(e:γ→AV)(k:γ→PT os β):PT os β:=
 ⟨.call (e (M.getD default)) ks (k (M.getD default)).a,fun E=>Ez P E.l E.r f xs b (e (M.getD default))∧(k (M.getD default)).q E,M.bind fun y=>(k y).m,fun E=>(∀y,M=some y→Ez P E.C.l E.E.r f xs b (e y))∧∀y,(k y).n E,fun E c y hm h=>by
  obtain⟨x,a,d⟩:=bind_some hm
  have g:M.getD default=x:=by rw[a];rfl
  rw[g]
  exact⟨by rw[E.hl];exact c.1 x a,(k x).ok E (c.2 x) y d h⟩⟩
@[reducible] def mv{α:Type}[Rw α](d q:Nat)(xs:List α)(k:PT os β)(a:Nat.ble (q+1) os=true:=by kernel_rfl):PT os β:=
 ⟨.mv d q k.a,fun E=>CC (An Rw.e xs)∧(q<os∧E.r.no (E.r.κ (0,q)))∧k.q E,k.m,k.n,fun E c y hm b=>
  ⟨Ni _ _,⟨Yf a,by rw[E.g.no,E.g.κ];exact E.co.W q (Yf a)⟩,k.ok E c y hm b⟩⟩
@[reducible] def mvc{α:Type}[Rw α](d q e i:Nat)(xs:List α)(k:PT os β)(a:Nat.ble (q+1) os=true:=by kernel_rfl):PT os β:=
 ⟨.mvc d q e i k.a,fun E=>CC (An Rw.e xs)∧(q<os∧E.r.no (E.r.κ (0,q)))∧k.q E,k.m,k.n,fun E c y hm b=>
  ⟨Ni _ _,⟨Yf a,by rw[E.g.no,E.g.κ];exact E.co.W q (Yf a)⟩,k.ok E c y hm b⟩⟩
end
section
variable {P:Program} {os os':Nat} {ys:List AV} {bi:List Blk} {Θ:Cl} {γ:Type} {M:Option γ} {e:γ→AV} {bs:γ→List Blk} {C:Cx} {r:Ren} {y:γ}
theorem Ff{f:FuncId}(K:KO P f os ys bi Θ M e bs)(hy:M=some y){fx:List Nat}(co:COx C os' fx)(g:Gd C r)(c m:List (Aa×Blk)){x:List (Aa×Blk)}{w:Hp}(N:∀p∈x,(w (r.κ p.1)).g=r.γ p.1+p.2.g∧(p.2.live=true→w (r.κ p.1)=Ah r p.1 p.2))(v:∀p∈c,p∈x)
  {I d:List AV} (θ:Nat→AV) (R:∀i a,Θ (fun k=>k∈(c.map (·.1)).map r.κ) i a θ) (q:∀l H,BE (A0 l ((c.map (·.1)).map r.κ) (D6 r c) θ H) r 0 bi c) (D:bs y=bi:=by rfl) (u:bi.all Blk.live=true:=by kernel_rfl)
  (Q:∀l H,Ab (A0 l ((c.map (·.1)).map r.κ) (D6 r c) θ H) ys=I++d:=by intro l H;kernel_rfl) (E:∀l H,ren (A0 l ((c.map (·.1)).map r.κ) (D6 r c) θ H) (e y)=e y:=by intro l H;kernel_rfl)
  (G:(((c++m).map (·.1)).all (AQ os')&&Ew ((c++m).map (·.1))&&Nat.beq c.length os)=true:=by kernel_rfl):D0 P (C.l+1) (fun k=>k∈(m.map (·.1)).map r.κ) w (.fn (.func f) [] d) I (e y):=by
 have B:∀b∈bi,b.live=true:=fun b x=>Yo.1 u b x
 refine⟨f,[],d,rfl,fun i a hl O=>?_⟩
 simp only[Ye,YY,List.all_append]at G
 obtain⟨⟨⟨F,T⟩,U⟩,V⟩:=G
 have n:=HH (KZ co g) _ U (by rw[List.all_append,F,T];rfl)
 rw[YY,List.nodup_append]at n
 have A:∀p∈c,a (r.κ p.1)=w (r.κ p.1):=fun p o=>by
  have hm:r.κ p.1∈(c.map (·.1)).map r.κ:=Jn (Jn o)
  exact O _ (KP (GB co g _ F) _ hm) fun h=>n.2.2 _ hm _ h rfl
 have s:∀p∈c,(a (r.κ p.1)).g=r.γ p.1+p.2.g∧(p.2.live=true→a (r.κ p.1)=Ah r p.1 p.2):=fun p o=>by rw[A p o];exact N p (v p o)
 have t:DX i ((c.map (·.1)).map r.κ):=by
  have:=GB co g (c.map (·.1)) F
  generalize (c.map (·.1)).map r.κ=ks at this
  induction ks with
  |nil=>trivial
  |cons k ks S=>exact⟨CQ this.1 hl,S this.2⟩
 have:=K.k i a ((c.map (fun p:Aa×Blk=>p.1)).map r.κ) (D6 r c) θ (by rw[Ym,Ym];exact Ya V) t n.1
  (Ik bi c 0 bi (fun j=>by have:=HZ bi 0 j;rwa [YH]at this⊢) (q i a) s) (R i a) y hy
 rw[Y6,←Q i a]
 refine this.mono fun z W ⟨J,L⟩=>⟨J.trans (E i a),L.trans ?_⟩
 rw[D]
 exact Kd bi c 0 (q i a) B fun p o hl=>(s p o).2 hl
end
theorem H5{r b:Ren}{k k':Aa}{g a:Nat}{e:EK}{sz:Nat}{cs:List AV}(h:Dr cs)(c:r.γ k+g=b.γ k'+a):Ah r k ⟨g,true,e,sz,cs⟩=Ah b k' ⟨a,true,e,sz,cs⟩:=by
 simp only[Ah,Ep h,c]
section
variable {P:Program} {T:Nat→Option TI} {n:Nat} {C:Cx} {τ:St} {Q:Exit→St→Prop} {os k:Nat} {c:Code} {β:Type} {L:β→Prop} {y:β}
theorem VI{γ:Type}{M:Option γ}{kk:γ→Option β}{ss:List (Nat×AV)}{hs:List (Aa×Blk)}{fx:List Nat}(co:COx C os fx)(hm:M.bind kk=some y)(f:FuncId)(xs:List AV)(ks:List Aa)(b:List (Aa×Blk))(e:γ→AV)(Ad:γ→List (Aa×Blk))(fl:List Aa)
  (l:∀z,Cy C (Ad z)) (d:EI (Ae hs) fl) (a:∀z,M=some z→∀r,Gd C r→EA P C.l r f xs b (e z) (Ad z) [])
  (h:∀z,kk z=some y→LO P n C c (k+1) (Ac (Dx (Dt c k) (e z) (B6 [] ss)) (Ad z++Bq ((Ad z).map (·.1)) [] fl hs)) Q)
  (j:Dp c k=some (Dt c k,callF c k,EB c k):=by kernel_rfl) (v:ev (AB ss) (callF c k)=.fn (.func f) [] []:=by kernel_rfl) (m:[]++(EB c k).map (ev (AB ss))++[]=xs:=by kernel_rfl) (g:(ks.map fun k=>(k,Ae hs k))=b:=by kernel_rfl)
  (i:∀z,(Cm os (Ad z)&&G2 [] (Ad z)&&GD [] fx&&DQ hs&&GI n (Dt c k)&&ks.all (AQ os))=true:=by intro z;kernel_rfl):LO P n C c k (Ac ss hs) Q:=by
 obtain⟨z,o,p⟩:=bind_some hm
 exact S3 co.ok co.O co.F f [] [] xs j v m ks b g (e z) (Ad z) [] fl (i z) (l z) d (fun r q s t u=>a z o r ⟨q,s,t,u⟩) (h z p)
theorem c6{γ:Type}{M:Option γ}{kk:γ→Option β}{ss:List (Nat×AV)}{hs:List (Aa×Blk)}{f:FuncId}{os':Nat}{ys:List AV}{bi:List Blk}{Θ:Cl}{e0:γ→AV}{bs:γ→List Blk}{fx:List Nat}(co:COx C os fx)(hm:M.bind kk=some y)(K:KO P f os' ys bi Θ M e0 bs)
  (a b:List (Aa×Blk)) (e:γ→AV) (Ad:γ→List (Aa×Blk)) (fl:List Aa)
  (h:∀z,kk z=some y→LO P n C c (k+1) (Ac (Dx (Dt c k) (e z) (B6 [] ss)) (Ad z++Bq ((Ad z).map (·.1)) [] fl hs)) Q)
  (θ:Ren→Nat→AV:=fun _=>AB []) (A:∀r,Gd C r→Th Θ C r a (a++b) (θ r):=by intro r g;exact fun _ _ _=>trivial) (xs:List AV:=[]++(EB c k).map (ev (AB ss))++[])
  (q:∀z,Cy C (Ad z):=by intro z;repeat(first|exact trivial|refine⟨COx.W ‹_› _ (by decide),?_⟩))
  (j:EI (Ae hs) fl:=by repeat(first|exact trivial|refine⟨EX _ _,?_⟩))
  (i:∀r H,BE (rC C r a (θ r) H) r 0 bi a:=by
   intro r H
   repeat(first|exact trivial|refine⟨fun _=>⟨rfl,H5 (EX _ _) (by kernel_rfl)⟩,by kernel_rfl,?_⟩|refine⟨fun _=>⟨rfl,H5 Il (by kernel_rfl)⟩,by kernel_rfl,?_⟩|refine⟨fun _=>⟨rfl,by kernel_rfl⟩,by kernel_rfl,?_⟩|refine⟨(fun h=>nomatch h),by kernel_rfl,?_⟩))
  (d:∀z r H,BE (rC C r a (θ r) H) r 0 (bs z) (Ad z):=by
   intro z r H
   repeat(first|exact trivial|refine⟨fun _=>⟨rfl,H5 (EX _ _) (by kernel_rfl)⟩,by kernel_rfl,?_⟩|refine⟨fun _=>⟨rfl,H5 Il (by kernel_rfl)⟩,by kernel_rfl,?_⟩|refine⟨fun _=>⟨rfl,by kernel_rfl⟩,by kernel_rfl,?_⟩))
  (w:∀r H,Ab (rC C r a (θ r) H) ys=Ab r xs:=by intro r H;kernel_rfl) (s:[]++(EB c k).map (ev (AB ss))++[]=xs:=by kernel_rfl) (t:∀z r H,ren (rC C r a (θ r) H) (e0 z)=ren r (e z):=by intro z r H;kernel_rfl)
  (p:Dp c k=some (Dt c k,callF c k,EB c k):=by kernel_rfl) (u:ev (AB ss) (callF c k)=.fn (.func f) [] []:=by kernel_rfl)
  (l:(((a++b).map (·.1)).map fun k=>(k,Ae hs k))=a++b:=by kernel_rfl) (m:∀z,(bs z).all Blk.live=true:=by intro z;kernel_rfl) (he:∀z,a.map (·.1)=(Ad z).map (·.1):=by intro z;rfl)
  (v:((a.map (·.1)).all (AQ os)&&Ew (a.map (·.1))&&Nat.beq a.length os')=true:=by kernel_rfl)
  (o:∀z,(Cm os (Ad z)&&G2 [] (Ad z)&&GD [] fx&&DQ hs&&GI n (Dt c k)&&((a++b).map (·.1)).all (AQ os))=true:=by intro z;kernel_rfl):LO P n C c k (Ac ss hs) Q:=
 VI co hm f xs _ (a++b) e Ad fl q j (fun z x r g=>Tq K x co g a b (Ad z) (θ r) (A r g) (fun H=>i r H) (fun H=>d z r H) (m z) (fun H=>w r H) (fun H=>t z r H) v (he z)) h p u s l o
theorem Wb{fx:List Nat}(co:COx C os fx)(v:PT os β)(lf:Lf)(k:v.m=some y)(h:HL L y)(i:∀r (g:Gd C r),v.n ⟨⟨C.l,r,fun _ τ'=>LW P n C c τ' Q,fun _ _=>False⟩,L,C,_,co,g,rfl⟩)
  (j:∀l r Q a,AN r os v.a τ (fun τ _=>Fw fx lf τ (Q .normal))=v.q ⟨l,r,Q,a⟩:=by intro l r Q P;kernel_rfl):LW P n C c τ Q:=
 TW co.ok co.O co.F v.a lf (fun r Φ=>v.q ⟨C.l,r,fun _=>Φ,fun _ _=>False⟩) (fun r Φ=>j _ r (fun _=>Φ) _) fun r b d e f=>v.ok _ (i r ⟨b,d,e,f⟩) y k h
end
section
variable {α β:Type} (P:Program)
def Vp(s:Sem α):Prop:=∀w r a,s.run P w=.ok r a→a=w∧∀b,s.run P b=.ok r b
def Rd(s:Sem α):Prop:=∀w r a,s.run P w=.ok r a→a=w
variable {P}
theorem Vp.rd{s:Sem α}(h:Vp P s):Rd P s:=fun w r a e=>(h w r a e).1
theorem Vp.pure(a:α):Vp P (Pure.pure a:Sem α):=fun w r b e=>by cases e;exact⟨rfl,fun _=>rfl⟩
theorem Vp.halt(h:Halt):Vp P (.halt h:Sem α):=fun w r a e=>by cases e
theorem Vp.program:Vp P Go.program:=fun w r a e=>by cases e;exact⟨rfl,fun _=>rfl⟩
theorem Vp.bind{s:Sem α}{f:α→Sem β}(h:Vp P s)(k:∀a,Vp P (f a)):Vp P (s>>=f):=fun w r i e=>by
 rw[Sem.run_bind]at e
 cases hs:s.run P w with
 |halt x w'=>rw[hs]at e;cases e
 |ok a w'=>
  rw[hs]at e
  obtain⟨rfl,c⟩:=h w a w' hs
  obtain⟨d,g⟩:=k a _ _ _ e
  exact⟨d,fun b=>by rw[Sem.run_bind,c b];exact g b⟩
theorem Rd.bind{s:Sem α}{f:α→Sem β}(h:Rd P s)(k:∀a,Rd P (f a)):Rd P (s>>=f):=fun w r c e=>by
 rw[Sem.run_bind]at e
 cases hs:s.run P w with
 |halt x w'=>rw[hs]at e;cases e
 |ok a w'=>
  rw[hs]at e
  have b:=h w a w' hs
  subst b
  exact k a _ _ _ e
theorem J8(t:TypeId):Vp P (typeInfo t):=by
 unfold typeInfo
 refine Vp.program.bind fun p=>?_
 split
 ·exact .pure _
 ·exact .halt _
theorem DK(t:TypeId):Vp P (underlying t):=by
 unfold underlying
 refine Vp.program.bind fun p=>?_
 split
 ·exact .pure _
 ·exact .halt _
theorem Dj(t:TypeId):Vp P (sizeOf t):=by unfold sizeOf;exact(J8 t).bind fun _=>.pure _
theorem N0(t:TypeId):Vp P (isAgg t):=by
 unfold isAgg
 refine(DK t).bind fun d=>?_
 split<;>exact .pure _
theorem Ua(t:TypeId)(cs:Array Value)(o:Nat):Vp P (part t cs o):=by
 unfold part
 refine(N0 t).bind fun b=>?_
 cases b with
 |true=>exact(Dj t).bind fun _=>.pure _
 |false=>
  show Vp P (match cs[o]? with|some v=>_|none=>_)
  split
  ·exact .pure _
  ·exact .halt _
theorem HJ:∀(l:List FieldStep) (t:TypeId) (x:Option Value),Vp P (followBlind l t x)
 |[],t,x=>.pure _
 |s::a,t,x=>by
  unfold followBlind
  refine(DK _).bind fun d=>?_
  split
  ·split
   ·split
    ·exact .pure _
    ·exact HJ a _ _
    ·exact .halt _
    ·exact .pure _
    ·exact(Ua _ _ _).bind fun _=>HJ a _ _
    ·exact .halt _
    ·exact HJ a _ _
   ·exact .halt _
  ·exact .halt _
theorem MX:∀(n:Nat) (t:TypeId) (v:Value) (s:String),Vp P (nilAhead n t v s)
 |0,t,v,s=>.pure _
 |n+1,t,v,s=>by
  unfold nilAhead
  refine(J8 _).bind fun i=>?_
  split
  ·refine(HJ _ _ _).bind fun r=>?_
   split
   ·exact .pure _
   ·split
    ·exact MX n _ _ _
    ·exact .pure _
    ·exact .halt _
    ·exact .pure _
    ·exact .pure _
    ·refine(DK _).bind fun d=>?_
     split<;>exact .pure _
  ·exact .halt _
def VV(P:Program)(s:Sem Next):Prop:=∀w r a,s.run P w=.ok r a→∃v,r=.value v
theorem VV.val{s:Sem Value}:VV P (s>>=fun x=>Pure.pure (Next.value x):Sem Next):=fun w r b e=>by
 rw[Sem.run_bind]at e
 cases hs:s.run P w with
 |halt x w'=>rw[hs]at e;cases e
 |ok a w'=>rw[hs]at e;cases e;exact⟨a,rfl⟩
theorem Vp.val{s:Sem Value}(h:Vp P s):Vp P (s>>=fun x=>Pure.pure (Next.value x):Sem Next):=h.bind fun _=>.pure _
theorem Rd.val{s:Sem Value}(h:Rd P s):Rd P (s>>=fun x=>Pure.pure (Next.value x):Sem Next):=h.bind fun _=>(Vp.pure _).rd
end
theorem JW{P:Program}(t:TypeId):Vp P (zeroValue t):=by
 unfold zeroValue
 refine(J8 t).bind fun i=>?_
 split
 ·exact .pure _
 ·exact .halt _
theorem Om{α β:Type}{P:Program}{f:α→Sem β}(h:∀x,Vp P (f x)):∀l:List α,Vp P (l.mapM f)
 |[]=>by rw[List.mapM_nil];exact .pure _
 |x::l=>by rw[Hx];exact(h x).bind fun _=>(Om h l).bind fun _=>.pure _
theorem Uw{α β:Type}{P:Program}{f:α→Sem β}(h:∀x,Vp P (f x))(l:Array α):Vp P (l.mapM f):=by
 rw[Mh]
 exact(Om h _).bind fun _=>.pure _
theorem Tv{P:Program}(t:TypeId)(ps:Array (Nat×Value)):Vp P (Instr.build t ps):=by
 unfold Instr.build
 refine(JW t).bind fun z=>(DK t).bind fun d=>?_
 split
 ·refine(Uw (fun f=>(Dj _).bind fun _=>.pure _) _).bind fun a=>?_
  split
  ·exact .pure _
  ·exact .halt _
 ·refine(Dj _).bind fun n=>?_
  split
  ·exact .pure _
  ·exact .halt _
 ·exact .halt _
def Nv{α:Type}(P:Program)(s:Sem α):Prop:=∀w r a,s.run P w≠.ok r a
theorem Nv.vp{α:Type}{P:Program}{s:Sem α}(h:Nv P s):Vp P s:=fun w r a e=>absurd e (h w r a)
theorem M3{α:Type}{P:Program}(k:IntKind)(x y:Int)(c:BoundsCode):Nv P (boundsPanic k x y c:Sem α):=fun w r b e=>by
 unfold boundsPanic at e
 dsimp only at e
 have d:∀(s:Bool) w r b,(runtimePanic (.bounds (IntKind.i64.wrap x) y s c):Sem α).run P w≠.ok r b:=fun s w r b e=>by
  unfold runtimePanic at e
  simp only[Sem.run_bind,run_program,Result.andThen_ok]at e
  repeat(first|(cases e;done)|split at e|(simp[goPanic,stuck,unsupported,Sem.run]at e;done))
 split at e
 all_goals
  rw[Sem.run_bind]at e
  generalize hs:Sem.run P _ w=q at e
  cases q with
  |halt x w'=>cases e
  |ok a w'=>exact d _ _ _ _ e
theorem U1{α:Type}{P:Program}:Nv P (runtimePanic .nilDeref:Sem α):=fun w r a e=>by
 unfold runtimePanic at e
 simp only[Sem.run_bind,run_program,Result.andThen_ok]at e
 repeat(first|(cases e;done)|split at e|(simp[goPanic,stuck,unsupported,Sem.run]at e;done))
theorem MN{P:Program}(v:Value):Vp P (asIntOf v):=by
 unfold asIntOf
 split
 ·exact .pure _
 ·exact .halt _
 ·exact .halt _
theorem Oc{P:Program}(v:Value):Vp P (Instr.sureAddr v):=by
 unfold Instr.sureAddr
 split
 ·exact .pure _
 ·exact .halt _
theorem Sy{P:Program}(v:Value):Vp P (asAddr v):=by
 unfold asAddr
 split
 ·exact .pure _
 ·first|exact U1.vp|exact .halt _
 ·exact .halt _
theorem QV{P:Program}(x:Value)(y:Nat)(c:BoundsCode):Vp P (Instr.sliceBound x y c):=by
 unfold Instr.sliceBound
 refine(MN _).bind fun p=>?_
 dsimp only
 split
 ·exact .pure _
 ·exact(M3 _ _ _ _).vp
theorem MF{P:Program}(b:Bool)(n m:Nat)(lo hi a:Option Value):Vp P (Instr.sliceBounds b n m lo hi a):=by
 unfold Instr.sliceBounds
 dsimp only
 repeat' (first|exact Vp.pure _|exact QV _ _ _|exact Vp.halt _|refine Vp.bind ?_ fun _=>?_|split)
theorem SE{P:Program}(t:TypeId)(x:Value)(lo hi a:Option Value):Vp P (Instr.slice t x lo hi a):=by
 unfold Instr.slice
 dsimp only
 repeat' (first|exact Vp.pure _|exact MF _ _ _ _ _ _|exact DK _|exact Dj _|exact Sy _|exact Vp.halt _|refine Vp.bind ?_ fun _=>?_|split)
theorem R4{P:Program}(t:TypeId)(x:Value)(lo hi a:Option Value):Vp P (Instr.sliceAt t x lo hi a):=by
 unfold Instr.sliceAt
 repeat' (first|exact Vp.pure _|exact MF _ _ _ _ _ _|exact DK _|exact Dj _|exact Oc _|exact SE _ _ _ _ _|exact Vp.halt _|refine Vp.bind ?_ fun _=>?_|split)
theorem Rt{P:Program}(t:TypeId)(x i:Value):Vp P (Instr.indexAt t x i):=by
 unfold Instr.indexAt
 dsimp only
 repeat' (first|exact Vp.pure _|exact MN _|exact DK _|exact Dj _|exact Oc _|exact(M3 _ _ _ _).vp|exact Vp.halt _|refine Vp.bind ?_ fun _=>?_|split)
theorem RM{P:Program}(v:Value)(i:Nat):Vp P (Instr.extract v i):=by
 unfold Instr.extract
 split
 ·split
  ·exact .pure _
  ·exact .halt _
 ·exact .halt _
def Qf(P:Program)(c:Call):Bool:=match c.callee,c.args.toList,c.argTypes.toList with
 |.builtin .len,[_],[t]=>(match P.underlying t with|some (.slice _)=>true|some .string=>true|_=>false)
 |_,_,_=>false
theorem Vo{P:Program}{t:TypeId}{ty:TypeId}(x:Value)(h:(match P.underlying t with|some (.slice _)=>true|some .string=>true|_=>false)=true):Vp P (Builtin.len_ #[t] ty #[x]):=by
 unfold Builtin.len_
 simp only[Mn,YZ]
 intro w r c e
 have a:∃d,P.underlying t=some d∧((∃q,d=.slice q)∨d=.string):=by
  grind
 obtain⟨d,a,b⟩:=a
 simp only[Sem.run_bind,run_underlying a,Result.andThen_ok]at e⊢
 rcases b with⟨q,rfl⟩|rfl
 ·cases x<;>first|(cases e;exact⟨rfl,fun _=>rfl⟩)|(cases e;done)
 ·cases x<;>first|(cases e;exact⟨rfl,fun _=>rfl⟩)|(cases e;done)
def EM(P:Program)(o:Oper):Bool:=match o.op with
 |.build _ _=>true
 |.extract _ _=>true
 |.indexAddr _ _ _=>true
 |.slice _ _ _ _ _=>true
 |.makeFunc _ _ _=>true
 |.call c=>Qf P c
 |.move _=>true
 |.assign _=>true
 |.nilCheck _=>true
 |.fieldAddr t _ i=>(match P.underlying t with|some (.struct a)=>(match a[i]? with|some f=>!(Nat.beq (P.cellsOf f.type) 0)|none=>false)|_=>false)
 |_=>false
def F0(P:Program)(o:Oper):Bool:=EM P o||match o.op with|.load _ _=>true|_=>false
section
variable {P:Program} {ρ:Operand→Value} {o:Oper}
theorem T9(h:EM P o=true):Vp P (execOp ρ o)∧VV P (execOp ρ o):=by
 obtain⟨j,op,type,pos,after,guard⟩:=o
 cases op<;>simp only[EM]at h<;>first|(cases h;done)|skip
 case move x=>exact⟨.pure _,fun w r d e=>by cases e;exact⟨_,rfl⟩⟩
 case assign x=>exact⟨.pure _,fun w r d e=>by cases e;exact⟨_,rfl⟩⟩
 case build t ps=>exact⟨(Tv _ _).val,VV.val⟩
 case makeFunc f a b=>exact⟨(Vp.pure _).val,VV.val⟩
 case extract x i=>exact⟨(RM _ _).val,VV.val⟩
 case indexAddr t x i=>exact⟨(Rt _ _ _).val,VV.val⟩
 case slice t x a b c=>exact⟨(R4 _ _ _ _ _).val,VV.val⟩
 case call c=>
  unfold Qf at h
  split at h
  ·rename_i x t l k n
   obtain⟨A,y,E⟩:=c
   simp only at l k n
   subst l
   have B:y=#[x]:=YS (by simpa using k)
   have C:E=#[t]:=YS (by simpa using n)
   subst B;subst C
   have:execOp ρ ⟨j,.call ⟨.builtin .len,#[x],#[t]⟩,type,pos,after,guard⟩=(Builtin.len_ #[t] type #[ρ x]>>=fun v=>(Pure.pure (Next.value v):Sem Next)):=by
    simp[execOp,resolve,invoke,Go.builtin]
   rw[this]
   exact⟨(Vo _ h).val,VV.val⟩
  ·cases h
 case nilCheck x=>
  have G:∀v:Value,Vp P (pure (.value v):Sem Next)∧VV P (pure (.value v):Sem Next):=fun v=>⟨.pure _,fun w r d e=>by cases e;exact⟨_,rfl⟩⟩
  have g:Vp P (runtimePanic .nilDeref:Sem Next)∧VV P (runtimePanic .nilDeref:Sem Next):=by
   have:∀w r d,(runtimePanic .nilDeref:Sem Next).run P w≠.ok r d:=fun w r d e=>by
    unfold runtimePanic at e
    simp only[Sem.run_bind,run_program,Result.andThen_ok]at e
    repeat(first|(cases e;done)|split at e|(simp[goPanic,stuck,unsupported,Sem.run]at e;done))
   exact⟨fun w r d e=>absurd e (this w r d),fun w r d e=>absurd e (this w r d)⟩
  show Vp P (execOp ρ _)∧_
  simp only[execOp]
  split
  ·exact g
  ·exact g
  ·exact g
  ·split
   ·exact g
   ·refine⟨Vp.program.bind fun p=>(MX _ _ _ _).bind fun b=>?_,fun w r d e=>?_⟩
    ·split
     ·exact .halt _
     grind
    ·simp only[Sem.run_bind,run_program,Result.andThen_ok]at e
     cases hs:(nilAhead _ _ _ _).run P w with
     |halt x w'=>rw[hs]at e;cases e
     |ok a w'=>
      rw[hs]at e
      simp only[Result.andThen_ok]at e
      split at e
      ·cases e
      ·cases e;exact⟨_,rfl⟩
   grind
  ·grind
 case fieldAddr t x i=>
  refine⟨Vp.val ?_,VV.val⟩
  unfold Instr.fieldAt
  intro w r d e
  split at h
  ·rename_i F q
   split at h
   ·rename_i f m
    have s:P.cellsOf f.type≠0:=fun D=>by rw[D]at h;cases h
    have run:∀(ad:Addr) (w:World),(Instr.fieldAt t (.pointer (some ad)) i).run P w=.ok (.pointer (some (ad.add f.offset))) w:=fun ad w=>by
     simp[Instr.fieldAt,run_underlying q,m,Instr.sureAddr,fieldPlace,BU s,s]
    have z:∀v:Value,(∀ad,v≠.pointer (some ad))→(Instr.fieldAt t v i).run P w≠.ok r d:=fun v H e=>by
     have hs:Instr.sureAddr v=.halt (.stuck "an address expected (no nilCheck in front?)"):=by
      unfold Instr.sureAddr
      split
      ·grind
      ·rfl
     simp only[Instr.fieldAt,Sem.run_bind,run_underlying q,Result.andThen_ok,m,hs]at e
     cases e
    change (Instr.fieldAt t (ρ x) i).run P w=.ok r d at e
    show d=w∧∀u,(Instr.fieldAt t (ρ x) i).run P u=.ok r u
    grind
   ·cases h
  ·cases h
theorem Oh(a:Addr):Rd P (load a):=fun w r b e=>by
 unfold load at e
 simp only[Sem.run]at e
 grind
theorem Mt(a:Addr):∀(n i:Nat) (b:Array Value),Rd P (loadCellsFrom a i n b)
 |0,i,b=>(Vp.pure _).rd
 |n+1,i,b=>by unfold loadCellsFrom;exact(Oh _).bind fun v=>Mt a n (i+1) _
theorem RR(t:TypeId)(a:Addr):Rd P (loadVar t a):=by
 unfold loadVar
 refine(N0 t).rd.bind fun b=>?_
 cases b with
 |true=>exact(Dj t).rd.bind fun n=>(Mt a n 0 _).bind fun _=>(Vp.pure _).rd
 |false=>exact Oh a
theorem KU(h:F0 P o=true):Rd P (execOp ρ o)∧VV P (execOp ρ o):=by
 unfold F0 at h
 rw[YE]at h
 rcases h with h|h
 ·obtain⟨c,d⟩:=T9 (ρ:=ρ) h
  exact⟨c.rd,d⟩
 ·obtain⟨b,op,type,pos,after,guard⟩:=o
  cases op<;>simp only at h<;>first|(cases h;done)|skip
  refine⟨Rd.val ?_,VV.val⟩
  unfold Instr.loadAt
  refine Rd.bind ?_ fun a=>RR _ _
  unfold Instr.sureAddr
  split
  ·exact(Vp.pure _).rd
  ·exact(Vp.halt _).rd
def Dw(w a:World):Prop:=∀(k:Nat) (o:Obj),w.heap[k]?=some o→a.heap[k]?=some o
theorem Dw.refl(w:World):Dw w w:=fun _ _ h=>h
theorem Dw.cell{w d:World}{a:Addr}{v:Value}(h:Dw w d)(b:w.cell? a=some v):d.cell? a=some v:=by
 unfold World.cell? at b⊢
 cases c:w.heap[a.block]? with
 |none=>rw[c]at b;cases b
 |some o=>rw[c]at b;rw[h _ _ c];exact b
theorem Dw.seen{w d:World}{p:Program}{at_:Addr}{u:TypeId}{k:Addr}{b:Bool}(h:Dw w d){r}(a:w.seen p at_ u k b=.ok r):d.seen p at_ u k b=.ok r:=by
 cases c:w.heap[at_.block]? with
 |none=>
  exfalso
  unfold World.seen at a
  rw[c]at a
  have T:∀(α:Type) (e:String),(MonadExcept.throw e:Except String α)=.error e:=fun _ _=>rfl
  simp only[bind,Except.bind,pure,Except.pure,throw,throwThe,T]at a
  grind
 |some o=>
  unfold World.seen at a⊢
  rw[h _ _ c]
  grind
variable {α β:Type}
def Hq(P:Program)(s:Sem α):Prop:=∀w r b a,s.run P w=.ok r b→Dw w a→s.run P a=.ok r a
theorem Hq.bind{s:Sem α}{f:α→Sem β}(d:Rd P s)(h:Hq P s)(k:∀a,Hq P (f a)):Hq P (s>>=f):=fun w r g i e b=>by
 rw[Sem.run_bind]at e⊢
 cases hs:s.run P w with
 |halt x w'=>rw[hs]at e;cases e
 |ok a w'=>
  rw[hs]at e
  have c:=d w a w' hs
  subst c
  rw[h _ _ _ _ hs b]
  exact k a _ _ _ _ e b
def IR(o:Oper):Bool:=match o.op with|.buildSlice _ _ _=>true|.alloc _=>true|_=>false
theorem SK{w:World}{o:Obj}:Dw w {w with heap:=w.heap.push o }:=fun k a h=>by
 grind
def Gr(P:Program)(s:Sem α):Prop:=∀w r a,s.run P w=.ok r a→Dw w a
theorem Rd.gr{s:Sem α}(h:Rd P s):Gr P s:=fun w r a e=>by rw[h w r a e];exact .refl _
theorem Gr.bind{s:Sem α}{f:α→Sem β}(h:Gr P s)(k:∀a,Gr P (f a)):Gr P (s>>=f):=fun w r c e=>by
 rw[Sem.run_bind]at e
 cases hs:s.run P w with
 |halt x w'=>rw[hs]at e;cases e
 |ok a w'=>
  rw[hs]at e
  exact fun q o b=>k a _ _ _ e _ _ (h _ _ _ hs _ _ b)
theorem Kf(t:TypeId)(cs:Array Value):Gr P (newRow t cs):=fun w r a e=>by
 unfold newRow newObj at e
 cases e
 exact SK
theorem QZ(t:TypeId)(n:Nat)(ps:Array (Nat×Value)):Gr P (Instr.buildSlice t n ps):=by
 unfold Instr.buildSlice
 refine(DK t).rd.gr.bind fun d=>?_
 split
 ·refine(Dj _).rd.gr.bind fun size=>?_
  by_cases a:n*size>2^24
  ·rw[Yt a]
   intro w r c e
   cases e
  ·rw[Yy a]
   by_cases b:n*size=0
   ·rw[Yt b]
    refine Gr.bind (s:=Pure.pure _) (Vp.pure _).rd.gr fun z=>?_
    dsimp only
    split
    ·exact(Kf _ _).bind fun _=>(Vp.pure _).rd.gr
    ·exact(Vp.halt _).rd.gr
   ·rw[Yy b]
    refine(JW _).rd.gr.bind fun z=>Gr.bind (s:=Pure.pure _) (Vp.pure _).rd.gr fun z=>?_
    dsimp only
    split
    ·exact(Kf _ _).bind fun _=>(Vp.pure _).rd.gr
    ·exact(Vp.halt _).rd.gr
 ·exact(Vp.halt _).rd.gr
theorem T8(h:IR o=true):Gr P (execOp ρ o)∧VV P (execOp ρ o):=by
 obtain⟨a,op,type,pos,after,guard⟩:=o
 cases op<;>simp only[IR]at h<;>first|(cases h;done)|skip
 case buildSlice=>exact⟨(QZ _ _ _).bind fun _=>(Vp.pure _).rd.gr,VV.val⟩
 case alloc t=>exact⟨Gr.bind (s:=Instr.alloc _ _ _) ((JW _).rd.gr.bind fun z=>Gr.bind (s:=newVar _ _) (Kf _ _ |>.bind fun _=>(Vp.pure _).rd.gr) fun _=>(Vp.pure _).rd.gr) fun _=>(Vp.pure _).rd.gr,VV.val⟩
theorem UL(h:(F0 P o||IR o)=true):Gr P (execOp ρ o)∧VV P (execOp ρ o):=by
 rw[YE]at h
 rcases h with h|h
 ·exact⟨(KU h).1.gr,(KU h).2⟩
 ·exact T8 h
end
end Go.Eng
