import Derived.Test.YtifefgdogdecnaaGreatDoorEb07
import Derived.Shelf.Spec.SlicesGrow
import Derived.Test.YtifefgdogdecnaaGreatDoorEb00
namespace Go.Eng
structure Raw where
 num:Int
 wire:Int
 bits:Int
 data:ByteArray
deriving Inhabited,DecidableEq
mutual
inductive Val where
 |mk (kind bits:Int) (text:ByteArray) (list:List Val) (pairs:List Pr) (slots:List Slt) (raws:List Raw)
inductive Pr where
 |mk (key val:Val)
inductive Slt where
 |mk (num:Int) (val:Val)
end
inductive Msk where
 |mk (num:Int) (subs:List Msk)
instance:Inhabited Val:=⟨.mk 0 0 .empty [] [] [] []⟩
instance:Inhabited Pr:=⟨.mk default default⟩
instance:Inhabited Slt:=⟨.mk 0 default⟩
instance:Inhabited Msk:=⟨.mk 0 []⟩
def Val.kind:Val→Int|.mk k _ _ _ _ _ _=>k
def Val.bits:Val→Int|.mk _ b _ _ _ _ _=>b
def Val.text:Val→ByteArray|.mk _ _ t _ _ _ _=>t
def Val.list:Val→List Val|.mk _ _ _ l _ _ _=>l
def Val.pairs:Val→List Pr|.mk _ _ _ _ p _ _=>p
def Val.slots:Val→List Slt|.mk _ _ _ _ _ s _=>s
def Val.raws:Val→List Raw|.mk _ _ _ _ _ _ r=>r
def Pr.key:Pr→Val|.mk k _=>k
def Pr.val:Pr→Val|.mk _ v=>v
def Slt.num:Slt→Int|.mk n _=>n
def Slt.val:Slt→Val|.mk _ v=>v
def Msk.num:Msk→Int|.mk n _=>n
def Msk.subs:Msk→List Msk|.mk _ s=>s
def XJ(s:ByteArray):List D:=[.str s]
def A8(s:Int):List D:=[.int .i64 s]
def mO(s:Bool):List D:=[.bool s]
def Aj(x:Raw):List D:=[.int .i64 x.num,.int .i64 x.wire,.int .u64 x.bits,.str x.data]
mutual
def Af:Val→List D
 |.mk k b t l p s r=>[.int .i64 k,.int .u64 b,.str t,.list (LI l),.list (MA p),.list (LN s),.list (r.map Aj)]
def LI:List Val→List (List D)
 |[]=>[]
 |v::vs=>Af v::LI vs
def Ax:Pr→List D
 |.mk k v=>Af k++Af v
def MA:List Pr→List (List D)
 |[]=>[]
 |v::vs=>Ax v::MA vs
def Ag:Slt→List D
 |.mk n v=>.int .i64 n::Af v
def LN:List Slt→List (List D)
 |[]=>[]
 |v::vs=>Ag v::LN vs
end
mutual
def Jx:Msk→List D
 |.mk n s=>[.int .i64 n,.list (Ls s)]
def Ls:List Msk→List (List D)
 |[]=>[]
 |v::vs=>Jx v::Ls vs
end
theorem dk(l:List Val):LI l=l.map Af:=by induction l with|nil=>rfl|cons v l a=>simp[LI,a]
theorem et(l:List Pr):MA l=l.map Ax:=by induction l with|nil=>rfl|cons v l a=>simp[MA,a]
theorem dj(l:List Slt):LN l=l.map Ag:=by induction l with|nil=>rfl|cons v l a=>simp[LN,a]
theorem di(l:List Msk):Ls l=l.map Jx:=by induction l with|nil=>rfl|cons v l a=>simp[Ls,a]
def Ac(x:Val):List D:=[.int .i64 x.kind,.int .u64 x.bits,.str x.text,.list (x.list.map Af),.list (x.pairs.map Ax),.list (x.slots.map Ag),.list (x.raws.map Aj)]
def Dq(x:Pr):List D:=[.int .i64 x.key.kind,.int .u64 x.key.bits,.str x.key.text,.list (x.key.list.map Af),.list (x.key.pairs.map Ax),.list (x.key.slots.map Ag),.list (x.key.raws.map Aj),.int .i64 x.val.kind,.int .u64 x.val.bits,.str x.val.text,.list (x.val.list.map Af),.list (x.val.pairs.map Ax),.list (x.val.slots.map Ag),.list (x.val.raws.map Aj)]
def Bo(x:Slt):List D:=[.int .i64 x.num,.int .i64 x.val.kind,.int .u64 x.val.bits,.str x.val.text,.list (x.val.list.map Af),.list (x.val.pairs.map Ax),.list (x.val.slots.map Ag),.list (x.val.raws.map Aj)]
def Xt(x:Msk):List D:=[.int .i64 x.num,.list (x.subs.map Jx)]
theorem Cz(v:Val):Af v=Ac v:=by
 cases v;simp[Af,Ac,dk,et,dj,Val.kind,Val.bits,Val.text,Val.list,Val.pairs,Val.slots,Val.raws]
theorem Hx(v:Pr):Ax v=Dq v:=by cases v;simp[Ax,Cz,Ac,Dq,Pr.key,Pr.val]
theorem Ht(v:Slt):Ag v=Bo v:=by cases v;simp[Ag,Cz,Ac,Bo,Slt.num,Slt.val]
theorem mM(v:Msk):Jx v=Xt v:=by cases v;simp[Jx,Xt,di,Msk.num,Msk.subs]
structure Typ where
 kind:Int
 name:ByteArray
deriving Inhabited,DecidableEq
def PD(x:Typ):List D:=[.int .i64 x.kind,.str x.name]
structure Nt where
 name:ByteArray
 val:Val
deriving Inhabited
def H8(x:Nt):List D:=[.str x.name,.int .i64 x.val.kind,.int .u64 x.val.bits,.str x.val.text,.list (x.val.list.map Af),.list (x.val.pairs.map Ax),.list (x.val.slots.map Ag),.list (x.val.raws.map Aj)]
structure Fld where
 num:Int
 name:ByteArray
 card:Int
 key:Int
 type:Typ
 union:ByteArray
 hasDefault:Bool
 dflt:Val
 notes:List Nt
deriving Inhabited
def Aw(x:Fld):List D:=[.int .i64 x.num,.str x.name,.int .i64 x.card,.int .i64 x.key,.int .i64 x.type.kind,.str x.type.name,.str x.union,.bool x.hasDefault,.int .i64 x.dflt.kind,.int .u64 x.dflt.bits,.str x.dflt.text,.list (x.dflt.list.map Af),.list (x.dflt.pairs.map Ax),.list (x.dflt.slots.map Ag),.list (x.dflt.raws.map Aj),.list (x.notes.map H8)]
structure Spn where
 lo:Int
 hi:Int
deriving Inhabited,DecidableEq
def Zt(x:Spn):List D:=[.int .i64 x.lo,.int .i64 x.hi]
structure By where
 b:UInt8
deriving Inhabited,DecidableEq
def By.v(x:By):Int:=x.b.toNat
def mX(x:By):List D:=[.int .u8 x.v]
structure Msg where
 name:ByteArray
 fields:List Fld
 reserved:List Spn
 gone:List ByteArray
 notes:List Nt
deriving Inhabited
def Ao(x:Msg):List D:=[.str x.name,.list (x.fields.map Aw),.list (x.reserved.map Zt),.list (x.gone.map XJ),.list (x.notes.map H8)]
structure Itm where
 name:ByteArray
 num:Int
 notes:List Nt
deriving Inhabited
def ld(x:Itm):List D:=[.str x.name,.int .i64 x.num,.list (x.notes.map H8)]
structure Enm where
 name:ByteArray
 opn:Bool
 items:List Itm
 reserved:List Spn
 notes:List Nt
deriving Inhabited
def AD(x:Enm):List D:=[.str x.name,.bool x.opn,.list (x.items.map ld),.list (x.reserved.map Zt),.list (x.notes.map H8)]
structure Mth where
 name:ByteArray
 inn:ByteArray
 out:ByteArray
 shape:Int
 notes:List Nt
deriving Inhabited
def lB(x:Mth):List D:=[.str x.name,.str x.inn,.str x.out,.int .i64 x.shape,.list (x.notes.map H8)]
structure Svc where
 name:ByteArray
 methods:List Mth
 notes:List Nt
deriving Inhabited
def AU(x:Svc):List D:=[.str x.name,.list (x.methods.map lB),.list (x.notes.map H8)]
structure Scm where
 messages:List Msg
 enums:List Enm
 services:List Svc
deriving Inhabited
def AO(x:Scm):List D:=[.list (x.messages.map Ao),.list (x.enums.map AD),.list (x.services.map AU)]
structure Fil where
 name:ByteArray
 space:ByteArray
 imports:List ByteArray
 messages:List Msg
 enums:List Enm
 services:List Svc
deriving Inhabited
def mT(x:Fil):List D:=[.str x.name,.str x.space,.list (x.imports.map XJ),.list (x.messages.map Ao),.list (x.enums.map AD),.list (x.services.map AU)]
structure Prb where
 dfn:ByteArray
 num:Int
 err:Int
deriving Inhabited,DecidableEq
def mR(x:Prb):List D:=[.str x.dfn,.int .i64 x.num,.int .i64 x.err]
structure Stp where
 num:Int
 pos:Int
 hasKey:Bool
 key:Val
deriving Inhabited
def Ar(x:Stp):List D:=[.int .i64 x.num,.int .i64 x.pos,.bool x.hasKey,.int .i64 x.key.kind,.int .u64 x.key.bits,.str x.key.text,.list (x.key.list.map Af),.list (x.key.pairs.map Ax),.list (x.key.slots.map Ag),.list (x.key.raws.map Aj)]
structure Edt where
 path:List Stp
 kind:Int
 val:Val
deriving Inhabited
def Av(x:Edt):List D:=[.list (x.path.map Ar),.int .i64 x.kind,.int .i64 x.val.kind,.int .u64 x.val.bits,.str x.val.text,.list (x.val.list.map Af),.list (x.val.pairs.map Ax),.list (x.val.slots.map Ag),.list (x.val.raws.map Aj)]
class Mv (V:Type) where
 q:Bool
 e:V→List D
 z:V
def my{V:Type}[Mv V](p:ByteArray×V):List D:=.str p.1::Mv.e p.2
instance:Mv (List Int):=⟨false,fun x=>[.list (x.map A8)],[]⟩
instance (V:Type) [Mv V]:Mv (List (ByteArray×V)):=⟨false,fun m=>[.map (Mv.q V) (m.map my)],[]⟩
structure Web where
 messages:List (ByteArray×Msg)
 enums:List (ByteArray×Bool)
deriving Inhabited
structure Lst where
 dfn:ByteArray
 l:List Prb
deriving Inhabited
structure Acs where
 m:Msg
 s:Scm
deriving Inhabited
structure Prt where
 sl:List Slt
 rw:List Raw
deriving Inhabited
def lg(x:Prt):List D:=[.list (x.sl.map Ag),.list (x.rw.map Aj)]
structure Dfr where
 s:Scm
 out:List Edt
deriving Inhabited
structure P2 where
 a:Int
 b:Int
deriving Inhabited,DecidableEq
def CG(x:P2):List D:=[.int .i64 x.a,.int .i64 x.b]
structure Nod where
 kind:Int
 bits:Int
 text:ByteArray
 list:Int
 pairs:Int
 slots:Int
 raws:Int
deriving Inhabited,DecidableEq
structure Lnk where
 files:List Fil
 f:Fil
 known:List ByteArray
 messages:List ByteArray
 enums:List Enm
deriving Inhabited
def EH(x:List Int):List D:=[.list (x.map A8)]
def lu:Raw:=⟨0,0,0,⟨#[]⟩⟩
def FZ:Val:=.mk 0 0 ⟨#[]⟩ [] [] [] []
def mL:Pr:=.mk FZ FZ
def lH:Slt:=.mk 0 FZ
def mQ:Msk:=.mk 0 []
def kJ:Typ:=⟨0,⟨#[]⟩⟩
def mZ:Nt:=⟨⟨#[]⟩,FZ⟩
def kY:Fld:=⟨0,⟨#[]⟩,0,0,kJ,⟨#[]⟩,false,FZ,[]⟩
def mU:Spn:=⟨0,0⟩
def mY:By:=⟨0⟩
def lV:Msg:=⟨⟨#[]⟩,[],[],[],[]⟩
def mS:Itm:=⟨⟨#[]⟩,0,[]⟩
def kT:Enm:=⟨⟨#[]⟩,false,[],[],[]⟩
def mN:Mth:=⟨⟨#[]⟩,⟨#[]⟩,⟨#[]⟩,0,[]⟩
def mV:Svc:=⟨⟨#[]⟩,[],[]⟩
def mP:Fil:=⟨⟨#[]⟩,⟨#[]⟩,[],[],[],[]⟩
def mW:Prb:=⟨⟨#[]⟩,0,0⟩
def lj:Stp:=⟨0,0,false,FZ⟩
def kG:Edt:=⟨[],0,FZ⟩
def mH:P2:=⟨0,0⟩
end Go.Eng
namespace Go.Eng
set_option linter.all false
open Go Go.RowKit
def EW:List Nat→Code→Code
 |[],c=>c
 |0::p,.seq a _=>EW p a
 |_::p,.seq _ b=>EW p b
 |0::p,.cond _ a _=>EW p a
 |_::p,.cond _ _ b=>EW p b
 |_::p,.block _ c=>EW p c
 |_::p,.loop c=>EW p c
 |_::p,.scope c=>EW p c
 |_,c=>c
def AB(f:Func):Code:=f.body.getD .skip
def Ad{α:Type}(e:α→List D)(xs:List α):List AV:=((xs.map e).flatten).map .d
theorem CN{α:Type}(e:α→List D)(xs:List α):EN (Ad e xs):=fun x hx=>by
 obtain⟨d,_,rfl⟩:=YO.1 hx;rfl
theorem Hq{α:Type}{e:α→List D}{sz:Nat}(he:∀x,(e x).length=sz)(xs:List α):(Ad e xs).length=xs.length*sz:=by
 unfold Ad
 induction xs with
 |nil=>simp
 |cons x xs a=>simp only[YF,Y6,Gk,YC,he,Y7,YK]at a⊢;omega
theorem TC{α:Type}(e:α→List D)(xs ys:List α):Ad e (xs++ys)=Ad e xs++Ad e ys:=by simp[Ad]
section
variable {P:Program} {n:Nat} {C:Cx} {τ:St} {Q:Exit→St→Prop}
theorem dv{c:Code}(id:Nat)(x:Code)(b:c=.block id x)(h:LW P n C x τ (fun e τ'=>match e with|.exit i=>(match Nat.beq i id with|true=>Q .normal τ'|false=>Q (.exit i) τ')|e=>Q e τ')):LW P n C c τ Q:=b▸fg (h.mono fun e τ' a=>by
 cases e with
 |exit i=>
  simp only at a⊢
  split at a
  ·rename_i he;rw[Yj (Ya he)];exact a
  ·rename_i he;rw[Yq (by rintro rfl;simp at he)];exact a
 |_=>exact a)
end
theorem bP{P:Program}{T:Nat→Option TI}{n:Nat}{f:FuncId}{fn:Func}(e:List ResultVar)(c:Code){l:Nat}{xs:List AV}{H:Hp}{a:AV→Hp→Prop}(θ:Nat→AV)(ys:List AV)
  (j:P.funcs[f]?=some fn) (hb:fn.body=some c) (b:(fn.name== "runtime.NumGoroutine")=false) (o:fn.ntmps=n) (r:fn.results.toList=e) (hx:xs.length≤n) (g:AL P T)
  (d:Ae ⟨fun k=>(l+1,k.2),fun _=>0,θ,H,fun _=>False⟩ ys=xs) (h:∀B:Base,LW P n (MF l θ H B) c (Ab (B4 0 ys) []) (FQ T e 0 (fun y _=>a y H))):Zbb P f l xs H a:=
 Ty e (MF l θ H) (γ:=fun _=>0) (LPost:=fun y _=>a y H) j hb b o r hx g (fun B=>SH l B θ H) (fun B=>⟨rfl,rfl,rfl,trivial⟩) (fun B=>d) (fun _=>rfl) (fun _=>rfl) (fun B k m=>by simp[Ak,CW]at m) (fun B i hi=>absurd hi (Er _))
  (fun B γ y t s _ q p hy=>by rw[hy rfl,fe p];exact q) h
theorem ii{α:Type}(e:α→List D)(xs:List α):A0 ((xs.map e).length:Nat) xs.length:=by simp[A0]
theorem Ub{α:Type}{e e':α→List D}{xs:List α}{i:Nat}{x:α}(hx:xs[i]?=some x)(he:∀x,e x=e' x):FN (xs.map e) (i:Nat) (e' x):=⟨by omega,by simp[hx,he]⟩
theorem gj{α:Type}{e e':α→List D}{xs:List α}{i:Nat}{z:α}(hi:i<xs.length)(he:∀x,e x=e' x):FN (xs.map e) (i:Nat) (e' (xs.getD i z)):=by
 refine Ub ?_ he
 grind
theorem Pf{a r:Int}(h:a=r)(b: -9223372036854775808≤r)(c:r<9223372036854775808):Br .i64 a r:=by
 subst h;exact IntWalk.i64_in _ ⟨b,by omega⟩
theorem jV{i len sz:Nat}(h:i<len):HY (i:Nat) len 0 sz (i*sz):=⟨by omega,by omega,by simp⟩
theorem fA{sz:Nat}{e:List D}(C:List AV)(he:e.length=sz):Ea sz C (.d (.list [e])) 1 (e.map .d):=by
 refine⟨Yo.2 fun x hx=>?_,fun q a=>?_,rfl,by simp⟩
 ·obtain⟨d,_,rfl⟩:=YO.1 hx;rfl
 grind
theorem dJ{α:Type}{sz:Nat}{e:α→List D}(C:List AV)(xs:List α)(he:∀x,(e x).length=sz):Ea sz C (.d (.list (xs.map e))) xs.length (Ad e xs):=by
 refine⟨Yo.2 fun x hx=>?_,fun q a=>?_,by simp,rfl⟩
 ·obtain⟨d,_,rfl⟩:=YO.1 hx;rfl
 grind
theorem eS{α:Type}{sz byt:Nat}{e:α→List D}(xs ys:List α){a:Nat}(he:∀x,(e x).length=sz)(b:xs.length+ys.length=a)(hb:a*byt≤140737488355328):
  L4 (Ad e xs) 0 xs.length ys.length sz byt (Ad e ys) (Ad e (xs++ys)) a:=
 ⟨by rw[Hq he,YL],by rw[Hc,Nb,TC],b,hb⟩
theorem dE{α:Type}(e:α→List D)(x:α):Ad e [x]=(e x).map .d:=by simp[Ad]
theorem TK{α:Type}{sz:Nat}{e:α→List D}(xs:List α)(b:sz≠0)(he:∀x,(e x).length=sz):G3 (Ad e xs) 0 xs.length sz (xs.map e):=
 ⟨by simp,b,fun q a=>by obtain⟨x,_,rfl⟩:=YO.1 a;exact he x,by rw[Hq he];simp,by rw[Hc,Nb,←Hq he xs,Ns];rfl⟩
theorem Tt{α:Type}{e e':α→List D}{xs:List α}{i:Int}{z:α}(a:0≤i)(hi:i<xs.length)(he:∀x,e x=e' x):FN (xs.map e) i (e' (xs.getD i.toNat z)):=by
 have h:=gj (e:=e) (e':=e') (xs:=xs) (i:=i.toNat) (z:=z) (by omega) he
 grind
theorem dZ{α:Type}{sz byt c:Nat}{e:α→List D}{news:List AV}(xs ys:List α)(he:∀x,(e x).length=sz)(a:ys.length=c)(b:news=Ad e ys)(hb:(xs.length+ys.length)*byt≤140737488355328):
  L4 (Ad e xs) 0 xs.length c sz byt news (Ad e (xs++ys)) (xs++ys).length:=by
 subst a;subst b
 exact eS xs ys he (by rw[YC]) (by rw[YC];exact hb)
section
variable {P:Program} {l:Nat} {r:Ren} {f:FuncId} {xs xs':List AV} {hb:List (Aa×Blk)} {x x':AV}
def BC(P:Program)(l:Nat)(no:Aa→Prop)(H:Hp)(c:AV)(g:List AV)(y:AV):Prop:=
 ∃f first a,c=.fn (.func f) first a∧∀e b,l≤e→(∀k:Aa,k.1≤l→¬no k→b k=H k)→Zbb P f e (first++g++a) b (fun h d=>h=y∧d=b)
theorem ee{i:Nat}{c:AV}(j:r.θ i=c)(h:BC P l r.no r.H0 c xs' x')(d:Ae r xs=xs')(e:ren r x=x'):Je P l r i xs hb x:=by
 obtain⟨f,first,a,rfl,h⟩:=h
 exact⟨f,first,a,j,fun b _ g=>by rw[d,e];exact h (l+1) b (Nat.le_succ l) g⟩
theorem fv{H:Hp}{no:Aa→Prop}{d:List AV}{y:AV}(h:∀c a,Zbb P f c d a (fun e b=>e=y∧b=a)):BC P l no H (.fn (.func f) [] []) d y:=
 ⟨f,[],[],rfl,fun c a _ _=>by simpa using h c a⟩
end
section
variable {P:Program} {T:Nat→Option TI} {n:Nat} {C:Cx} {τ:St} {Q:Exit→St→Prop}
theorem gR(g:CxOk C)(k:AL P T)(hm:P.follows .mixedOrders=true){os:Nat}{fx:List Nat}(d:C.outs=os)(i:C.fx=fx){c:Code}(a:AT)(lf e:Lf)(f:List ResultVar){b:AV→List Blk→Prop}(q:Ren→(Exit→St→Prop)→(AV→List Blk→Prop)→Prop)
  (l:∀r Q b,Bz P T C.l n os r c a τ (KB T f os fx r b lf e Q)=q r Q b) (j:∀τ,FQ T f os b .ret τ→Q .ret τ) (h:∀r,r.θ=C.θ→r.H0=C.H0→r.κ=C.κ→r.no=C.no→q r Q b):LW P n C c τ Q:=
 i6 g k hm a lf e (by rw[d];exact j) (fun γ=>by rw[d,i,l];exact h _ rfl rfl rfl rfl)
theorem gP(e:CxOk C)(g:AL P T)(hm:P.follows .mixedOrders=true){os:Nat}(f:C.outs=os){c:Code}(a:AT)(d:List ResultVar){b:AV→List Blk→Prop}(q:Ren→(AV→List Blk→Prop)→Prop)
  (i:∀r b,Bz P T C.l n os r c a τ (KF T d os b)=q r b) (h:∀r,r.θ=C.θ→r.H0=C.H0→r.κ=C.κ→r.no=C.no→q r b):LW P n C c τ (FQ T d os b):=by
 subst f
 exact gX e g hm a (fun γ=>by rw[i];exact h _ rfl rfl rfl rfl)
mutual
theorem eW{H:Hp}:∀(x:AV) {a:AT} {K c:AV→AT→Prop},(∀y a,K y a→c y a)→frz H x a K→frz H x a c
 |.d x,a,K,c,b,h=>b _ _ h
 |.e0,a,K,c,b,h=>b _ _ h
 |.agg xs,a,K,c,b,h=>SQ xs (fun ys a h=>b _ _ h) h
 |.ref k g off m,a,K,c,b,h=>by
  unfold frz at h⊢
  grind
 |.top,a,K,c,b,h=>by simp only[frz]at h
 |.p _,a,K,c,b,h=>b _ _ h
 |.ptr _ _ _,a,K,c,b,h=>by simp only[frz]at h
 |.mp k g,a,K,c,b,h=>by
  unfold frz at h⊢
  grind
 |.iptr _ _,a,K,c,b,h=>by simp only[frz]at h
 |.ifc _ _ _,a,K,c,b,h=>b _ _ h
 |.fn _ _ _,a,K,c,b,h=>by simp only[frz]at h
 |.tup _,a,K,c,b,h=>by simp only[frz]at h
theorem SQ{H:Hp}:∀(xs:List AV) {a:AT} {K b:List AV→AT→Prop},(∀y a,K y a→b y a)→FM H xs a K→FM H xs a b
 |[],a,K,b,c,h=>c _ _ h
 |x::xs,a,K,b,c,h=>by
  simp only[FM]at h⊢
  exact eW x (fun y a h=>SQ xs (fun ys a h=>c _ _ h) h) h
end
end
theorem Hk{α:Type}(e:α→List D)(x:α)(xs:List α):Ad e (x::xs)=(e x).map .d++Ad e xs:=by simp[Ad]
theorem Of{α:Type}{e:α→List D}{sz:Nat}(hl:∀x,(e x).length=sz):∀(xs:List α) (j:Nat),(Ad e xs).drop (j*sz)=Ad e (xs.drop j)
 |[],j=>by simp[Ad]
 |x::xs,0=>by simp
 |x::xs,j+1=>by
  have a:((e x).map AV.d).length=sz:=by rw[YF,hl]
  rw[Hk,YK,IA,Kj,←Kg,List.drop_left' a,Of hl xs j]
  rfl
theorem Oz{α:Type}{e:α→List D}{sz:Nat}(hl:∀x,(e x).length=sz):∀(xs:List α) (j:Nat),(Ad e xs).take (j*sz)=Ad e (xs.take j)
 |[],j=>by simp[Ad]
 |x::xs,0=>by simp[Ad]
 |x::xs,j+1=>by
  have a:((e x).map AV.d).length=sz:=by rw[YF,hl]
  rw[Hk,List.take_succ_cons,Hk,YK,IA,Kj,List.take_append,a,Nat.add_sub_cancel_left,Oz hl xs j,Rm (by omega)]
theorem ic{α:Type}{xs:List α}{j:Nat}{z:α}(a:j<xs.length):xs.drop j=xs.getD j z::xs.drop (j+1):=by
 rw[YN a,Iy,Yb a];rfl
theorem bA{α:Type}{e e':α→List D}{xs:List α}{j sz:Nat}{z:α}(a:j<xs.length)(hl:∀x,(e x).length=sz)(he:∀x,e x=e' x):D0 (Ad e xs) (j*sz) ((e' (xs.getD j z)).map .d):=by
 unfold D0
 rw[Of hl,ic (z:=z) a,Hk,he,List.take_left]
theorem iq{α:Type}{e:α→List D}{xs:List α}{j sz:Nat}{y:α}(b:j<xs.length)(hl:∀x,(e x).length=sz):G4 (Ad e xs) (j*sz) ((e y).map .d) (Ad e (xs.set j y)):=by
 have a:((e y).map AV.d).length=sz:=by rw[YF,hl]
 have c:(j+1)*sz≤xs.length*sz:=YP _ b
 rw[YK,IA]at c
 refine⟨by rw[a,Hq hl];omega,?_⟩
 rw[a,Oz hl,show j*sz+sz=(j+1)*sz from by rw[YK,IA],Of hl,List.set_eq_take_append_cons_drop,Yj b,TC,Hk,Ep]
def BQ(r:Ren):List (Aa×Blk)→Hp→Hp
 |[],H=>H
 |(k,b)::a,H=>BQ r a (updH H (r.κ k) (An r k b))
def EL(P:Program)(l:Nat)(r:Ren)(f:FuncId)(xs:List AV)(e:List (Aa×Blk))(x:AV)(c:List (Aa×Blk))(fr:List Aa):Prop:=
 ∀a,(∀p∈e,(a (r.κ p.1)).g=r.γ p.1+p.2.g∧(p.2.live=true→a (r.κ p.1)=An r p.1 p.2))→(∀k:Aa,k.1≤l→¬r.no k→a k=r.H0 k)→
  Zbb P f (l+1) (Ae r xs) a (fun y b=>∃d:Aa→Nat,(∀k,k∉fr→d k=r.γ k)∧y=ren ⟨r.κ,d,r.θ,r.H0,r.no⟩ x∧b=BQ ⟨r.κ,d,r.θ,r.H0,r.no⟩ c a)
mutual
def D3(fr:List Aa):AV→Bool
 |.ref k _ _ _=>fr.any (AY k)
 |.ptr k _ _=>fr.any (AY k)
 |.mp k _=>fr.any (AY k)
 |.fn _ xs ys=>EA fr xs||EA fr ys
 |.agg xs=>EA fr xs
 |.tup xs=>EA fr xs
 |.top=>false
 |.d _=>false
 |.e0=>false
 |.p _=>false
 |.iptr _ _=>false
 |.ifc _ _ _=>false
def EA(fr:List Aa):List AV→Bool
 |[]=>false
 |x::xs=>D3 fr x||EA fr xs
end
def Cn(fr:List Aa):List (Nat×AV)→List (Nat×AV)
 |[]=>[]
 |(j,x)::r=>(j,match D3 fr x with|true=>.top|false=>x)::Cn fr r
def BN(ks fr fl:List Aa):List (Aa×Blk)→List (Aa×Blk)
 |[]=>[]
 |(k,b)::r=>match ks.any (AY k),fl.any (AY k)||!EA fr b.cells with
  |false,true=>(k,b)::BN ks fr fl r
  |_,_=>BN (k::ks) fr fl r
def Eb:Option Nat→AV→List (Nat×AV)→List (Nat×AV)
 |some d,x,r=>(d,x)::r
 |none,_,r=>r
def AZ(os:Nat)(k:Aa):Bool:=Nat.beq k.1 1||(Nat.beq k.1 0&&Nat.ble (k.2+1) os)
def B1(os:Nat):List (Aa×Blk)→Bool
 |[]=>true
 |(k,b)::r=>AZ os k&&b.live&&!(r.any fun p=>AY k p.1)&&B1 os r
mutual
theorem Su{r:Ren}{b:Aa→Nat}{fr:List Aa}(a:∀k,k∉fr→b k=r.γ k):∀(x:AV),D3 fr x=false→ren ⟨r.κ,b,r.θ,r.H0,r.no⟩ x=ren r x
 |.ref k g off n,h=>by simp only[D3]at h;simp only[ren];rw[a k (KV h)]
 |.ptr k g off,h=>by simp only[D3]at h;simp only[ren];rw[a k (KV h)]
 |.mp k g,h=>by simp only[D3]at h;simp only[ren];rw[a k (KV h)]
 |.fn f xs ys,h=>by
  simp only[D3,M6]at h
  have c:=Hh a xs h.1
  have d:=Hh a ys h.2
  cases f<;>simp only[ren,c,d]
 |.agg xs,h=>by simp only[D3]at h;simp only[ren,Hh a xs h]
 |.tup xs,h=>by simp only[D3]at h;simp only[ren,Hh a xs h]
 |.top,_=>by simp[ren]
 |.d _,_=>by simp[ren]
 |.e0,_=>by simp[ren]
 |.p _,_=>by simp[ren]
 |.iptr _ _,_=>by simp[ren]
 |.ifc _ _ _,_=>by simp[ren]
theorem Hh{r:Ren}{b:Aa→Nat}{fr:List Aa}(a:∀k,k∉fr→b k=r.γ k):∀(xs:List AV),EA fr xs=false→Ae ⟨r.κ,b,r.θ,r.H0,r.no⟩ xs=Ae r xs
 |[],_=>by simp[Ae]
 |x::xs,h=>by
  simp only[EA,M6]at h
  simp only[Ae,Su a x h.1,Hh a xs h.2]
theorem KV{k:Aa}{fr:List Aa}(h:fr.any (AY k)=false):k∉fr:=fun hm=>by
 have:fr.any (AY k)=true:=YX.2 ⟨k,hm,Bq.2 rfl⟩
 grind
end
def Bc:Code→Array Oper
 |.region _ ops _=>ops
 |_=>#[]
def Wd:Code→Bool
 |.region _ _ false=>true
 |_=>false
def D6{α:Type}:Nat→List α→List α
 |0,l=>l
 |_+1,[]=>[]
 |n+1,_::l=>D6 n l
def EJ{α:Type}:Nat→List α→List α
 |0,_=>[]
 |_+1,[]=>[]
 |n+1,x::l=>x::EJ n l
theorem OH{α:Type}:∀(n:Nat) (l:List α),D6 n l=l.drop n
 |0,l=>rfl
 |n+1,[]=>rfl
 |n+1,x::l=>OH n l
theorem KI{α:Type}:∀(n:Nat) (l:List α),EJ n l=l.take n
 |0,l=>rfl
 |n+1,[]=>rfl
 |n+1,x::l=>by rw[EJ,KI n l];rfl
def LO(P:Program)(n:Nat)(C:Cx)(c:Code)(k:Nat)(τ:St)(Q:Exit→St→Prop):Prop:=
 ∀γ σ a w,C.G γ→RG (C.r γ) C.l C.outs [] τ σ→R C.l n C.B σ a w→wpList P (Bc c) (fun e d w'=>∃b,Is n C (Q e) b∧R C.l n C.B b d w') ((Bc c).toList.drop k) a w
def D2(c:Code)(k:Nat):Option (Option Nat×Operand×List Operand):=
 match AS (Bc c).toList k with
 |some o=>(match o.guard,o.op with
  |none,.call cl=>(match cl.callee with|.value f=>some (o.dst,f,cl.args.toList)|_=>none)
  |_,_=>none)
 |none=>none
def C9(C:Cx):List (Aa×Blk)→Prop
 |[]=>True
 |(k,_)::r=>match Nat.beq k.1 1 with|true=>C9 C r|false=>C.no (C.κ k)∧C9 C r
def F5(H:Hp):List Aa→Prop
 |[]=>True
 |k::r=>EN (H k).cells∧F5 H r
def HU(fr:List Aa)(a:List (Aa×Blk)):Bool:=fr.all fun k=>a.any fun p=>AY k p.1
def HD(fr:List Aa)(fx:List Nat):Bool:=fr.all fun k=>!(Nat.beq k.1 0&&fx.any (Nat.beq k.2))
def EG:List (Aa×Blk)→Bool
 |[]=>true
 |(_,b)::r=>Nat.beq b.g 0&&EG r
def XV:Option Nat→(Nat→AV)→AV→Nat→AV
 |some d,s,v=>upd s d v
 |none,s,_=>s
def HJ(n:Nat):Option Nat→Bool
 |some d=>Nat.ble (d+1) n
 |none=>true
section
variable {P:Program} {T:Nat→Option TI} {n:Nat} {C:Cx} {τ:St} {Q:Exit→St→Prop}
theorem cN{c:Code}(b:Wd c=true)(h:LO P n C c 0 τ Q):LW P n C c τ Q:=by
 cases c with
 |region id ops d=>
  cases d with
  |true=>cases b
  |false=>
   obtain⟨i,rfl⟩:∃l:List Oper,ops=l.toArray:=⟨ops.toList,by simp⟩
   intro γ σ g e a w f
   have:=h γ σ a w g e f
   simp only[Bc,Nb]at this
   exact wp_region_lit this
 |_=>cases b
theorem gW(d:CxOk C)(A:AL P T){os:Nat}{fx:List Nat}(y:C.outs=os)(v:C.fx=fx){c:Code}{k:Nat}(m:Nat)(a:AT)(lf:Lf)(q:Ren→(St→Prop)→Prop)
  (E:∀r Φ,AG r os a τ (fun τ a=>Do P T C.l n r ((Bc c).toList.map (·.dst)) (EJ m (D6 k (Bc c).toList)) [] a (fun τ' env f=>AG r os f (B3 env τ') (fun τ _=>Co fx lf τ Φ)) τ)=q r Φ)
  (h:∀r,r.θ=C.θ→r.H0=C.H0→r.κ=C.κ→r.no=C.no→q r (fun τ'=>LO P n C c (k+m) τ' Q)):LO P n C c k τ Q:=by
 subst y
 subst v
 intro γ σ g w D x z
 have o:=h (C.r γ) rfl rfl rfl rfl
 rw[←E]at o
 obtain⟨R,p,N,u,i,j⟩:=Bh (n:=n) d a o x
 have e:(Bc c).toList.drop k=EJ m (D6 k (Bc c).toList)++(Bc c).toList.drop (k+m):=by
  rw[KI,OH,←Kg,Ra]
 rw[e]
 refine Hj (d.ren γ) A (B:=C.B) _ (fun τ' l f U b w' J K L=>?_) _ [] p R N g w u i (j _ _ z)
 obtain⟨V,s,t⟩:=IQ (n:=n) K
 obtain⟨X,S,W,f1,f2,f3⟩:=Bh (n:=n) d f J s
 obtain⟨M,Y,O,F,G,H,I⟩:=Ez (n:=n) d f1 D f2
 exact G M O b w' F H (I _ _ (f3 _ _ (t _ _ L)))
theorem jg(b:CxOk C)(A:AL P T){os:Nat}{fx:List Nat}(y:C.outs=os)(v:C.fx=fx){c:Code}{k:Nat}(a:AT)(lf:Lf)(q:Ren→(Exit→St→Prop)→Prop)
  (E:∀r Φ,AG r os a τ (fun τ a=>Do P T C.l n r ((Bc c).toList.map (·.dst)) (D6 k (Bc c).toList) [] a (fun τ' env d=>AG r os d (B3 env τ') (fun τ _=>Co fx lf τ (Φ .normal))) τ)=q r Φ)
  (h:∀r,r.θ=C.θ→r.H0=C.H0→r.κ=C.κ→r.no=C.no→q r Q):LO P n C c k τ Q:=by
 subst y
 subst v
 intro γ σ f w D x z
 have m:=h (C.r γ) rfl rfl rfl rfl
 rw[←E]at m
 obtain⟨O,p,N,u,g,i⟩:=Bh (n:=n) b a m x
 have e:(Bc c).toList.drop k=D6 k (Bc c).toList++[]:=by rw[OH,J0]
 rw[e]
 refine Hj (b.ren γ) A (B:=C.B) _ (fun τ' l d U j w' J K L=>?_) _ [] p O N f w u g (i _ _ z)
 obtain⟨V,s,t⟩:=IQ (n:=n) K
 obtain⟨X,S,W,f1,f2,f3⟩:=Bh (n:=n) b d J s
 obtain⟨M,R,o,F,G,H,I⟩:=Ez (n:=n) b f1 D f2
 unfold wpList
 exact⟨o,⟨M,R,o,F,G,H,Wk.refl _⟩,I _ _ (f3 _ _ (t _ _ L))⟩
theorem KS:∀{hs:List (Aa×Blk)},EG hs=true→∀k,(Ak hs k).g=0
 |[],_,k=>rfl
 |(k',b)::r,h,k=>by
  simp only[EG,Yc]at h
  simp only[Ak]
  split
  ·exact Ya h.1
  ·exact KS h.2 k
theorem Ti{k:Aa}{ks:List Aa}:ks.any (AY k)=true↔k∈ks:=by
 rw[YX]
 exact⟨fun⟨q,a,b⟩=>by rw[Bq.1 b];exact a,fun h=>⟨k,h,Bq.2 rfl⟩⟩
theorem gI(a b:List (Aa×Blk))(k:Aa):Ak (a++b) k=if k∈a.map (·.1)then Ak a k else Ak b k:=by
 induction a with
 |nil=>simp
 |cons p a f=>
  obtain⟨q,d⟩:=p
  simp only[J9,Ak,Y6,YJ]
  cases c:AY q k with
  |true=>rw[Yj (.inl (Bq.1 c).symm)]
  |false=>
   have:k≠q:=fun e=>by rw[Bq.2 e.symm]at c;cases c
   grind
theorem IP{fr fl:List Aa}:∀(hs:List (Aa×Blk)) (ks:List Aa) (k:Aa),(k∈ks→Ak (BN ks fr fl hs) k=CW)∧(k∉ks→(Ak (BN ks fr fl hs) k=Ak hs k∧(k∈fl∨EA fr (Ak hs k).cells=false))∨Ak (BN ks fr fl hs) k=CW)
 |[],ks,k=>⟨fun _=>rfl,fun _=>.inr rfl⟩
 |(q,b)::r,ks,k=>by
  simp only[BN]
  split
  ·rename_i d a
   have f:q∉ks:=fun hm=>by rw[Ti.2 hm]at d;cases d
   simp only[Ak]
   cases c:AY q k with
   |true=>
    have c:=Bq.1 c
    subst c
    refine⟨fun h=>absurd h f,fun _=>.inl ⟨rfl,?_⟩⟩
    simp only[YD,Y3]at a
    rcases a with a|a
    ·exact .inl (Ti.1 a)
    grind
   |false=>exact IP r ks k
  ·obtain⟨d,a⟩:=IP (fr:=fr) (fl:=fl) r (q::ks) k
   refine⟨fun h=>d (Yy _ h),fun h=>?_⟩
   by_cases c:k=q
   ·grind
   ·rcases a (fun hm=>(YJ.1 hm).elim c h)with⟨i,j⟩|e
    ·have:AY q k=false:=by
      cases g:AY q k with
      |true=>exact absurd (Bq.1 g).symm c
      |false=>rfl
     simp only[Ak,this]
     grind
    grind
theorem Ky{r:Ren}:∀(a:List (Aa×Blk)) (H:Hp) (q:Aa),(∀p∈a,r.κ p.1≠q)→BQ r a H q=H q
 |[],H,q,h=>rfl
 |(k,b)::c,H,q,h=>by
  simp only[BQ]
  rw[Ky c _ q (fun p d=>h p (Yy _ d)),Al _ _ (fun e=>h (k,b) (YH ..) e.symm)]
theorem Ta{r:Ren}{os:Nat}(f:∀q k:Aa,AZ os q=true→AZ os k=true→q≠k→r.κ q≠r.κ k):∀(d:List (Aa×Blk)) (H:Hp),B1 os d=true→∀k b,(k,b)∈d→BQ r d H (r.κ k)=An r k b∧Ak d k=b∧AZ os k=true∧b.live=true
 |[],H,_,k,b,hm=>by cases hm
 |(q,c)::rest,H,h,k,b,hm=>by
  simp only[B1,Yc,Y3]at h
  obtain⟨⟨⟨j,v⟩,m⟩,n⟩:=h
  have g:∀p∈rest,p.1≠q:=fun p a e=>by
   have:(rest.any fun p=>AY q p.1)=true:=YX.2 ⟨p,a,Bq.2 e.symm⟩
   rw[this]at m;cases m
  have i:∀(l:List (Aa×Blk)),B1 os l=true→∀p∈l,AZ os p.1=true:=by
   intro l
   induction l with
   |nil=>intro _ p a;cases a
   |cons p l x=>
    obtain⟨y,z⟩:=p
    intro hl p a
    simp only[B1,Yc]at hl
    rcases YJ.1 a with rfl|a
    ·exact hl.1.1.1
    ·exact x hl.2 p a
  simp only[BQ]
  rcases YJ.1 hm with e|hm
  ·cases e
   refine⟨?_,by simp only[Ak,Bq.2 rfl],j,v⟩
   rw[Ky rest _ _ (fun p a=>f _ _ (i rest n p a) j (g p a)),Au]
  ·obtain⟨o,s,t,u⟩:=Ta f rest (updH H (r.κ q) (An r q c)) n k b hm
   refine⟨o,?_,t,u⟩
   have:AY q k=false:=by
    cases w:AY q k with
    |true=>exact absurd (Bq.1 w).symm (g _ hm)
    |false=>rfl
   simp only[Ak,this]
   exact s
theorem Pb:∀{d:List (Aa×Blk)},C9 C d→∀p∈d,p.1.1≠1→C.no (C.κ p.1)
 |(k,b)::r,h,p,c,a=>by
  simp only[C9]at h
  split at h
  ·rename_i e
   rcases YJ.1 c with rfl|c
   ·exact absurd (Ya e) a
   ·exact Pb h p c a
  ·rcases YJ.1 c with rfl|c
   ·exact h.1
   ·exact Pb h.2 p c a
theorem Pg{H:Hp}:∀{ks:List Aa},F5 H ks→∀k∈ks,EN (H k).cells
 |q::r,h,k,a=>by
  rcases YJ.1 a with rfl|a
  ·exact h.1
  ·exact Pg h.2 k a
theorem DH{os:Nat}{k:Aa}(h:AZ os k=true):k.1=1∨(k.1=0∧k.2<os):=by
 simp only[AZ,YD,Yc]at h
 rcases h with h|⟨a,b⟩
 ·exact .inl (Ya h)
 ·exact .inr ⟨Ya a,Yd b⟩
theorem Tp{fr:List Aa}:∀(ss:List (Nat×AV)) (j:Nat),As (Cn fr ss) j=.top∨(As (Cn fr ss) j=As ss j∧D3 fr (As ss j)=false)
 |[],j=>.inl rfl
 |(i,x)::r,j=>by
  simp only[Cn,As]
  split
  ·grind
  ·exact Tp r j
theorem eK(hC:CxOk C){os:Nat}{fx:List Nat}(hO:C.outs=os)(hF:C.fx=fx){c:Code}{k:Nat}{ss:List (Nat×AV)}{hs:List (Aa×Blk)}(m:Option Nat)(fo:Operand)(aZ:List Operand)(s:D2 c k=some (m,fo,aZ))
  (f:FuncId) (first v xs:List AV) (hf:ev (As ss) fo=.fn (.func f) first v) (hxs:first++aZ.map (ev (As ss))++v=xs) (ks:List Aa) (K:List (Aa×Blk)) (hhb:(ks.map fun k=>(k,Ak hs k))=K)
  {ι:Type} (I:ι→Prop) (xF:ι→AV) (t:ι→List (Aa×Blk)) (fr fl:List Aa) (N:(HD fr fx&&EG hs&&HJ n m&&ks.all (AZ os))=true) (u:∀i,(B1 os (t i)&&HU fr (t i))=true) (J:∀i,C9 C (t i)) (hfl:F5 (Ak hs) fl)
  (U:∀r:Ren,r.θ=C.θ→r.H0=C.H0→r.κ=C.κ→r.no=C.no→∀W,(∀p∈K,(W (r.κ p.1)).g=r.γ p.1+p.2.g∧(p.2.live=true→W (r.κ p.1)=An r p.1 p.2))→(∀k:Aa,k.1≤C.l→¬r.no k→W k=r.H0 k)→
   Zbb P f (C.l+1) (Ae r xs) W (fun y X=>∃i,I i∧∃g:Aa→Nat,(∀k,k∉fr→g k=r.γ k)∧y=ren ⟨r.κ,g,r.θ,r.H0,r.no⟩ (xF i)∧X=BQ ⟨r.κ,g,r.θ,r.H0,r.no⟩ (t i) W))
  (h:∀i,I i→LO P n C c (k+1) (Ab (Eb m (xF i) (Cn fr ss)) (t i++BN ((t i).map (·.1)) fr fl hs)) Q):LO P n C c k (Ab ss hs) Q:=by
 subst hO
 subst hF
 simp only[Yc]at N
 obtain⟨⟨⟨k3,k4⟩,k5⟩,k6⟩:=N
 intro γ σ act w hg A hR
 have hr:=hC.ren γ
 have hs':∀j,σ.s j=ren (C.r γ) (As ss j):=fun j=>(A.s j).1 AJ
 have B:∀y:Operand,ev σ.s y=ren (C.r γ) (ev (As ss) y):=fun y=>Gy (c:=[]) A AJ (by cases y<;>rfl)
 unfold D2 at s
 split at s
 case h_2=>cases s
 rename_i o ho
 split at s
 case h_2=>cases s
 rename_i cl hgd hopc
 split at s
 case h_2=>cases s
 rename_i fo' hcal
 simp only[Yh,DX]at s
 obtain⟨hd,rfl,rfl⟩:=s
 rw[Bk]at ho
 have hlt:k<(Bc c).toList.length:=by
  grind
 have V:(Bc c).toList.drop k=o::(Bc c).toList.drop (k+1):=by
  rw[YN hlt]
  grind
 rw[V]
 have M:∀q k:Aa,AZ C.outs q=true→AZ C.outs k=true→q≠k→(C.r γ).κ q≠(C.r γ).κ k:=fun q k h1 h2 h3=>hr.ne (DH h1) (DH h2) h3
 have hA:=U (C.r γ) rfl rfl rfl rfl σ.H (fun p F=>by
  rw[←hhb]at F
  obtain⟨q,l,rfl⟩:=YO.1 F
  have hq':=DH (Yo.1 k6 q l)
  refine⟨?_,fun hl=>A.h q hl⟩
  obtain⟨q1,q2⟩:=q
  simp only at hq'
  rcases hq' with rfl|⟨rfl,h2⟩
  ·have:=A.g q2
   rw[←hr.own]at this
   exact this
  ·exact A.go q2 h2) A.o
 have T:Ae (C.r γ) xs=Ae (C.r γ) first++cl.args.toList.map (ev σ.s)++Ae (C.r γ) v:=by
  rw[←hxs,DZ,DZ]
  congr 2
  rw[Dc,Eo]
  exact Y1 fun y _=>(B y).symm
 have hfe:ev σ.s fo'=.fn (.func f) (Ae (C.r γ) first) (Ae (C.r γ) v):=by rw[B,hf];simp[ren]
 have hrop:AX P C.l n o (fun σ'=>∃i,I i∧∃g:Aa→Nat,(∀q,q∉fr→g q=γ q)∧σ'=⟨XV m σ.s (ren (C.r g) (xF i)),BQ (C.r g) (t i) σ.H⟩) σ:=by
  unfold AX
  rw[hopc]
  simp only[hcal,hfe]
  rw[T]at hA
  refine hA.mono fun y X ⟨i,hi,g,O,e2,e3⟩=>?_
  unfold Jw Bv
  rw[hd]
  cases m with
  |none=>exact⟨i,hi,g,O,by rw[e3];rfl⟩
  |some d=>exact⟨Yd k5,i,hi,g,O,by rw[e2,e3];rfl⟩
 refine N9 (by simp[Region.wanted,hgd]) (Gs hrop) hR fun σ' Z w' hK S=>?_
 obtain⟨i,hi,g,O,rfl⟩:=hK
 have h:=h i hi
 have J:=J i
 have u:=u i
 generalize t i=a at h J u S
 generalize xF i=x at h S
 simp only[Yc]at u
 obtain⟨k1,k2⟩:=u
 have hsub:∀q,q∈fr→∃b,(q,b)∈a:=fun q l=>by
  obtain⟨p,F,hk⟩:=YX.1 (Yo.1 k2 q l)
  rw[Bq.1 hk];exact⟨p.2,F⟩
 let τ2:St:=Ab (Eb m x (Cn fr ss)) (a++BN (a.map (·.1)) fr fl hs)
 have E:∀q,Ak (a++BN (a.map (·.1)) fr fl hs) q=if q∈a.map (·.1)then Ak a q else Ak (BN (a.map (·.1)) fr fl hs) q:=fun q=>gI _ _ _
 have hin:∀q,q∈a.map (·.1)→∃b,(q,b)∈a:=fun q l=>by obtain⟨p,F,rfl⟩:=YO.1 l;exact⟨p.2,F⟩
 have G:∀q b,(q,b)∈a→BQ (C.r g) a σ.H ((C.r g).κ q)=An (C.r g) q b∧Ak a q=b∧AZ C.outs q=true∧b.live=true:=Ta (r:=C.r g) M a σ.H k1
 have D:∀q,q∉a.map (·.1)→AZ C.outs q=true→BQ (C.r g) a σ.H ((C.r g).κ q)=σ.H ((C.r g).κ q)∧g q=γ q:=fun q l z=>by
  refine⟨Ky _ _ _ fun p F=>M _ _ (G p.1 p.2 F).2.2.1 z fun e=>l (YO.2 ⟨p,F,e⟩),O q fun hf=>?_⟩
  grind
 have L:∀q,AZ C.outs q=true→(σ.H (C.κ q)).g=γ q→(BQ (C.r g) a σ.H (C.κ q)).g=g q+(Ak (a++BN (a.map (·.1)) fr fl hs) q).g:=fun q z hq0=>by
  rw[E]
  split
  ·rename_i hm
   obtain⟨b,K⟩:=hin q hm
   obtain⟨a1,Y,_⟩:=G q b K
   rw[show C.κ q=(C.r g).κ q from rfl,a1,Y]
   rfl
  ·rename_i hm
   obtain⟨a1,Y⟩:=D q hm z
   rw[show C.κ q=(C.r g).κ q from rfl,a1,Y]
   have:(Ak (BN (a.map (·.1)) fr fl hs) q).g=0:=by
    rcases(IP (fr:=fr) (fl:=fl) hs (a.map (·.1)) q).2 hm with⟨e,_⟩|e
    ·rw[e];exact KS k4 q
    ·rw[e];rfl
   rw[this]
   exact hq0
 have hG2:RG (C.r g) C.l C.outs [] τ2 ⟨fun j=>ren (C.r g) (τ2.s j),BQ (C.r g) a σ.H⟩:=by
  refine⟨fun j=>⟨fun _=>rfl,fun hn=>absurd AJ hn⟩,fun q l=>?_,fun d=>?_,fun i hi=>?_,fun q l=>?_,fun q l hn=>?_⟩
  ·show BQ (C.r g) a σ.H ((C.r g).κ q)=An (C.r g) q (Ak (a++BN (a.map (·.1)) fr fl hs) q)
   replace l:(Ak (a++BN (a.map (·.1)) fr fl hs) q).live=true:=l
   rw[E]at l⊢
   split at l
   ·grind
   ·rename_i hm
    rw[Yq hm]
    rcases(IP (fr:=fr) (fl:=fl) hs (a.map (·.1)) q).2 hm with⟨e,e'⟩|e
    ·rw[e]at l⊢
     have z:=A.k q l
     have u:AZ C.outs q=true:=by
      obtain⟨q1,q2⟩:=q
      simp only at z
      simp only[AZ,YD,Yc]
      rcases z with rfl|⟨rfl,h2⟩
      ·exact .inl rfl
      ·exact .inr ⟨rfl,Rb h2⟩
     obtain⟨a1,Y⟩:=D q hm u
     rw[a1]
     have K:=A.h q l
     have H:Ae (C.r g) (Ak hs q).cells=Ae (C.r γ) (Ak hs q).cells:=by
      rcases e' with e'|e'
      ·rw[Fq (Pg hfl q e'),Fq (Pg hfl q e')]
      ·exact Hh (r:=C.r γ) O _ e'
     show σ.H ((C.r γ).κ q)=_
     rw[K]
     simp only[An]
     rw[H,show(C.r g).γ q=g q from rfl,Y]
     rfl
    ·rw[e]at l;cases l
  ·have:=L (1,d) rfl (by
    have:=A.g d
    rw[show((Ab ss hs).H (1,d)).g=0 from KS k4 _]at this
    rw[hC.own];exact this)
   rw[hC.own]at this
   exact this
  ·exact L (0,i) (by simp only[AZ,YD,Yc];exact .inr ⟨rfl,Rb hi⟩) (by
    have:=A.go i hi
    rw[show((Ab ss hs).H (0,i)).g=0 from KS k4 _]at this
    exact this)
  ·replace l:(Ak (a++BN (a.map (·.1)) fr fl hs) q).live=true:=l
   rw[E]at l
   split at l
   ·rename_i hm
    obtain⟨b,K⟩:=hin q hm
    exact DH (G q b K).2.2.1
   ·rename_i hm
    rcases(IP (fr:=fr) (fl:=fl) hs (a.map (·.1)) q).2 hm with⟨e,e'⟩|e
    ·rw[e]at l;exact A.k q l
    ·rw[e]at l;cases l
  ·show BQ (C.r g) a σ.H q=C.H0 q
   rw[Ky _ _ _ fun p F e=>?_]
   ·exact A.o q l hn
   ·by_cases h1:p.1.1=1
    ·obtain⟨⟨p1,p2⟩,p3⟩:=p
     simp only at h1
     subst h1
     rw[show(C.r g).κ (1,p2)=(C.l+1,p2)from hC.own p2]at e
     grind
    ·exact hn (by rw[←e];exact Pb J p F h1)
 refine h g _ Z w' (hC.G γ g (fun i hi=>O _ fun hm=>?_) hg) hG2 (R.weaken S fun j=>?_)
 ·have:=Yo.1 k3 _ hm
  simp only[Y3,Na]at this
  rcases this with h|h
  ·cases h
  ·have:(C.fx.any (Nat.beq i))=true:=YX.2 ⟨i,hi,by simp⟩
   grind
 ·have old:ren (C.r g) (As (Cn fr ss) j)=σ.s j∨ren (C.r g) (As (Cn fr ss) j)=.top:=by
   rcases Tp (fr:=fr) ss j with e|⟨e,e'⟩
   ·right;rw[e];simp[ren]
   ·left
    rw[e,hs' j]
    exact Su (r:=C.r γ) O _ e'
  show ren (C.r g) (As (Eb m x (Cn fr ss)) j)=_∨ren (C.r g) (As (Eb m x (Cn fr ss)) j)=.top
  cases m with
  |none=>exact old
  |some d=>
   simp only[Eb,As,XV,upd]
   cases hj:Nat.beq d j with
   |true=>
    have:=Ya hj
    grind
   |false=>
    have:j≠d:=fun e=>by rw[e]at hj;simp at hj
    grind
theorem ga(E:CxOk C){os:Nat}{fx:List Nat}(G:C.outs=os)(F:C.fx=fx){c:Code}{k:Nat}{ss:List (Nat×AV)}{hs:List (Aa×Blk)}(g:Option Nat)(m:Operand)(l:List Operand)(s:D2 c k=some (g,m,l))
  (f:FuncId) (first e xs:List AV) (H:ev (As ss) m=.fn (.func f) first e) (u:first++l.map (ev (As ss))++e=xs) (ks:List Aa) (o:List (Aa×Blk)) (q:(ks.map fun k=>(k,Ak hs k))=o)
  (x:AV) (d:List (Aa×Blk)) (fr fl:List Aa) (j:(B1 os d&&HU fr d&&HD fr fx&&EG hs&&HJ n g&&ks.all (AZ os))=true) (t:C9 C d) (p:F5 (Ak hs) fl)
  (i:∀r:Ren,r.θ=C.θ→r.H0=C.H0→r.κ=C.κ→r.no=C.no→EL P C.l r f xs o x d fr)
  (h:LO P n C c (k+1) (Ab (Eb g x (Cn fr ss)) (d++BN (d.map (·.1)) fr fl hs)) Q):LO P n C c k (Ab ss hs) Q:=by
 simp only[Yc]at j
 obtain⟨⟨⟨⟨⟨J,K⟩,L⟩,M⟩,N⟩,O⟩:=j
 exact eK E G F g m l s f first e xs H u ks o q (ι:=Unit) (fun _=>True) (fun _=>x) (fun _=>d) fr fl (by simp only[Yc];exact⟨⟨⟨L,M⟩,N⟩,O⟩) (fun _=>by simp only[Yc];exact⟨J,K⟩) (fun _=>t) p
  (fun r z A B D v a b=>(i r z A B D v a b).mono fun y w I=>⟨(),trivial,I⟩) fun _ _=>h
end
def Ch(l:Nat)(ks:List Aa):Aa→Aa
 |(0,i)=>match AS ks i with|some k=>k|none=>(0,0)
 |(_+1,d)=>(l+1,d)
def Ei(a:List Nat):Aa→Nat
 |(0,i)=>match AS a i with|some g=>g|none=>0
 |(_+1,_)=>0
def Bp(l:Nat)(ks:List Aa)(a:List Nat)(θ:Nat→AV)(H:Hp):Ren:=⟨Ch l ks,Ei a,θ,H,fun k=>k∈ks⟩
def Ff(l:Nat)(ks:List Aa)(a:List Nat)(r:Ren):Prop:=r.κ=Ch l ks∧∀i,i<ks.length→r.γ (0,i)=Ei a (0,i)
def BH(r:Ren):Nat→List Blk→List Blk
 |_,[]=>[]
 |i,b::a=>An r (0,i) b::BH r (i+1) a
def B5(H:Hp):List Aa→List Blk→Hp
 |k::ks,b::a=>B5 (updH H k b) ks a
 |_,_=>H
theorem Ol:∀(ks:List Aa) (a:List Blk) (H:Hp) (q:Aa),q∉ks→B5 H ks a q=H q
 |[],a,H,q,h=>by cases a<;>rfl
 |k::ks,[],H,q,h=>rfl
 |k::ks,b::a,H,q,h=>by
  simp only[B5]
  rw[Ol ks a _ q (fun hm=>h (Yy _ hm)),Al _ _ (fun e=>h (by rw[e];exact YH ..))]
theorem Uc:∀(ks:List Aa) (a:List Blk) (H:Hp),ks.Nodup→∀(j:Nat) (k:Aa) (b:Blk),ks[j]?=some k→a[j]?=some b→B5 H ks a k=b
 |[],a,H,_,j,k,b,h,_=>by simp at h
 |q::ks,[],H,_,_,_,_,_,h=>by simp at h
 |q::ks,c::a,H,e,j,k,b,d,hb=>by
  simp only[B5]
  rw[List.nodup_cons]at e
  cases j with
  |zero=>
   simp only[YW,Yh]at d hb
   subst d;subst hb
   rw[Ol ks a _ _ e.1,Au]
  |succ j=>
   simp only[Hd]at d hb
   exact Uc ks a _ e.2 j k b d hb
theorem S5{r:Ren}:∀(a:List Blk) (i j:Nat),(BH r i a)[j]?=(a[j]?).map (An r (0,i+j))
 |[],i,j=>by simp[BH]
 |b::a,i,0=>by simp[BH]
 |b::a,i,j+1=>by
  simp only[BH,Hd,S5 a (i+1) j,show i+1+j=i+(j+1)from by omega]
theorem R2{P:Program}{T:Nat→Option TI}{n:Nat}{f:FuncId}{fn:Func}(J:List ResultVar)(c:Code){l:Nat}{xs:List AV}{H:Hp}{g:AV→Hp→Prop}(ks:List Aa)(t:List Nat)(fx:List Nat)(θ:Nat→AV)(ys:List AV)(hs:List (Aa×Blk))(LPost:AV→List Blk→Prop)
  (V:P.funcs[f]?=some fn) (hb:fn.body=some c) (s:(fn.name== "runtime.NumGoroutine")=false) (Z:fn.ntmps=n) (hr:fn.results.toList=J) (hx:xs.length≤n) (S:AL P T)
  (D:∀k∈ks,k.1≤l) (u:ks.Nodup) (W:∀d,Ak hs (1,d)=CW) (F:∀k,(Ak hs k).live=true→k.1=0∧k.2<ks.length)
  (R:∀i k,ks[i]?=some k→(H k).g=Ei t (0,i)+(Ak hs (0,i)).g∧((Ak hs (0,i)).live=true→H k=An (Bp l ks t θ H) (0,i) (Ak hs (0,i))))
  (I:Ae (Bp l ks t θ H) ys=xs)
  (h:∀C,CxOk C→C.outs=ks.length→C.fx=fx→C.l=l→C.H0=H→C.θ=θ→C.κ=Ch l ks→C.no=(fun k=>k∈ks)→LW P n C c (Ab (B4 0 ys) hs) (FQ T J ks.length LPost))
  (v:∀y b,LPost y b→b.length=ks.length∧(∀x∈b,x.live=true)∧∀r:Ren,r.κ=Ch l ks→r.θ=θ→r.H0=H→r.no=(fun k=>k∈ks)→(∀i∈fx,r.γ (0,i)=Ei t (0,i))→g (ren r y) (B5 H ks (BH r 0 b))):Zbb P f l xs H g:=by
 let C:Base→Cx:=fun B=>⟨l,B,Ch l ks,θ,H,ks.length,fun k=>k∈ks,fx,fun γ=>∀i∈fx,γ (0,i)=Ei t (0,i)⟩
 have a:∀i,i<ks.length→ks[i]?=some (Ch l ks (0,i)):=fun i hi=>by
  show _=some (match AS ks i with|some k=>k|none=>(0,0))
  rw[Bk,Yb hi]
 have E:∀(i:Nat) (k:Aa),ks[i]?=some k→i<ks.length:=fun i k hi=>by
  grind
 have K:∀B,CxOk (C B):=fun B=>by
  refine⟨fun _=>rfl,fun i hi=>D _ (Yi (a i hi)),fun i j hi Y e=>?_,fun k w=>?_,fun γ γ' he A i hi=>by rw[he i hi];exact A i hi⟩
  ·have m:=a i hi
   have o:=a j Y
   rw[show Ch l ks (0,i)=Ch l ks (0,j)from e]at m
   have Q:ks[i]?=ks[j]?:=m.trans o.symm
   exact(List.getElem?_inj hi u).1 Q
  ·obtain⟨i,hi⟩:=He.1 (show k∈ks from w)
   grind
 refine Ty J C (γ:=Ei t) (LPost:=LPost) (ys:=ys) (hs:=hs) V hb s Z hr hx S K (fun B=>⟨rfl,rfl,rfl,fun i _=>rfl⟩) (fun B=>I) (fun _=>rfl) W (fun B k w=>?_) (fun B i hi=>?_) (fun B γ y b N A hy L _=>?_) (fun B=>h _ (K B) rfl rfl rfl rfl rfl rfl rfl)
 ·obtain⟨m,o⟩:=F k w
  obtain⟨k1,M⟩:=k
  simp only at m o
  subst m
  exact⟨rfl,o,(R M _ (a M o)).2 w⟩
 ·grind
 ·obtain⟨U,z,v⟩:=v y b hy
  have v:=v ((C B).r γ) rfl rfl rfl rfl fun i hi=>A i hi
  have O:N=B5 H ks (BH ((C B).r γ) 0 b):=by
   funext q
   by_cases G:q∈ks
   ·obtain⟨i,hi⟩:=He.1 G
    have X:=E i q hi
    have p:b[i]?=some b[i]:=Yb (by omega)
    have m:=L.live i _ p (z _ (Yi p))
    have o:Ch l ks (0,i)=q:=by
     grind
    rw[show(C B).κ (0,i)=q from o]at m
    rw[m,Uc ks _ H u i q (An ((C B).r γ) (0,i) b[i]) hi]
    rw[S5,p,YL]
    rfl
   ·rw[Ol ks _ H q G]
    exact L.o q G
  rw[O];exact v
theorem be{P:Program}{T:Nat→Option TI}{n:Nat}{f:FuncId}{fn:Func}(w:List ResultVar)(c:Code){l:Nat}{xs:List AV}{H:Hp}{a:AV→Hp→Prop}(ks:List Aa)(e:List Nat)(fx:List Nat)(θ:Nat→AV)(ys:List AV)(hs:List (Aa×Blk))(LPost:AV→List Blk→Prop)
  (G:P.funcs[f]?=some fn) (hb:fn.body=some c) (g:(fn.name== "runtime.NumGoroutine")=false) (J:fn.ntmps=n) (K:fn.results.toList=w) (hx:xs.length≤n) (E:AL P T)
  (q:∀k∈ks,k.1≤l) (t:ks.Nodup) (p:∀i,i<ks.length→i∈fx) (I:∀d,Ak hs (1,d)=CW) (s:∀k,(Ak hs k).live=true→k.1=0∧k.2<ks.length)
  (D:∀i k,ks[i]?=some k→(H k).g=Ei e (0,i)+(Ak hs (0,i)).g∧((Ak hs (0,i)).live=true→H k=An (Bp l ks e θ H) (0,i) (Ak hs (0,i))))
  (v:Ae (Bp l ks e θ H) ys=xs)
  (h:∀C,CxOk C→C.outs=ks.length→C.fx=fx→C.l=l→C.H0=H→C.θ=θ→C.κ=Ch l ks→C.no=(fun k=>k∈ks)→LW P n C c (Ab (B4 0 ys) hs) (FQ T w ks.length LPost))
  (u:∀y b,LPost y b→b.length=ks.length∧(∀x∈b,x.live=true)∧∃Y' bs',(∀r,Ff l ks e r→ren r y=Y')∧(∀r,Ff l ks e r→BH r 0 b=bs')∧a Y' (B5 H ks bs')):Zbb P f l xs H a:=by
 refine R2 w c ks e fx θ ys hs LPost G hb g J K hx E q t I s D v h fun y b hy=>?_
 obtain⟨m,o,Y',bs',F,B,u⟩:=u y b hy
 refine⟨m,o,fun r z _ _ _ A=>?_⟩
 have j:Ff l ks e r:=⟨z,fun i hi=>A i (p i hi)⟩
 rw[F _ j,B _ j];exact u
theorem cW{P:Program}{T:Nat→Option TI}{n:Nat}{f:FuncId}{fn:Func}(v:List ResultVar)(c:Code){l:Nat}{xs:List AV}{H:Hp}{a:AV→Hp→Prop}(ks:List Aa)(g:List Nat)(fx:List Nat)(θ:Nat→AV)(ys:List AV)(hs:List (Aa×Blk))(Y:AV)(j:List Blk){Y':AV}{bs':List Blk}
  (E:P.funcs[f]?=some fn) (hb:fn.body=some c) (e:(fn.name== "runtime.NumGoroutine")=false) (G:fn.ntmps=n) (J:fn.results.toList=v) (hx:xs.length≤n) (B:AL P T)
  (q:∀k∈ks,k.1≤l) (t:ks.Nodup) (p:∀i,i<ks.length→i∈fx) (F:∀d,Ak hs (1,d)=CW) (s:∀k,(Ak hs k).live=true→k.1=0∧k.2<ks.length)
  (A:∀i k,ks[i]?=some k→(H k).g=Ei g (0,i)+(Ak hs (0,i)).g∧((Ak hs (0,i)).live=true→H k=An (Bp l ks g θ H) (0,i) (Ak hs (0,i))))
  (u:Ae (Bp l ks g θ H) ys=xs) (m:j.length=ks.length) (o:∀b∈j,b.live=true) (D:∀r,Ff l ks g r→ren r Y=Y') (z:∀r,Ff l ks g r→BH r 0 j=bs')
  (h:∀C,CxOk C→C.outs=ks.length→C.fx=fx→C.l=l→C.H0=H→C.θ=θ→C.κ=Ch l ks→C.no=(fun k=>k∈ks)→LW P n C c (Ab (B4 0 ys) hs) (FQ T v ks.length (fun y b=>y=Y∧b=j)))
  (I:a Y' (B5 H ks bs')):Zbb P f l xs H a:=by
 exact be v c ks g fx θ ys hs (fun y b=>y=Y∧b=j) E hb e G J hx B q t p F s A u h fun y b ⟨w,x⟩=>by subst w;subst x;exact⟨m,o,Y',bs',D,z,I⟩
section
variable {P:Program} {l:Nat} {r:Ren} {f:FuncId} {xs xs':List AV} {hb hb2:List (Aa×Blk)} {x x':AV}
theorem dN(e:Ae r xs=xs')(g:ren r x=x')(h:∀a,(∀p∈hb,(a (r.κ p.1)).g=r.γ p.1+p.2.g∧(p.2.live=true→a (r.κ p.1)=An r p.1 p.2))→(∀k:Aa,k.1≤l→¬r.no k→a k=r.H0 k)→Zbb P f (l+1) xs' a (fun y b=>y=x'∧b=BQ r hb2 a)):
  EL P l r f xs hb x hb2 []:=fun a hb i=>by
 rw[e]
 exact(h a hb i).mono fun y b ⟨c,d⟩=>⟨r.γ,fun _ _=>rfl,by rw[c,←g],d⟩
end
theorem EC{α:Type}{e:α→List D}{r:Ren}{k:Aa}(xs:List α):Ef r k (Ad e xs):=by
 unfold Ef
 rw[Fq (CN e xs)]
 refine Yo.2 fun x hx=>?_
 obtain⟨d,_,rfl⟩:=YO.1 hx
 rfl
theorem gv{r:Ren}{k:Aa}{vs:List AV}(h:(Ae r vs).all (AV.low (r.κ k).1)=true):Ef r k vs:=h
theorem Sx{α:Type}(e:α→List D)(xs:List α):DF (Ad e xs):=fun x hx=>by
 obtain⟨d,_,rfl⟩:=YO.1 hx;rfl
theorem dQ{α:Type}{e:α→List D}{xs:List α}{off cn sz:Nat}{z:List AV}(hl:∀x,(e x).length=sz)(h:off+cn≤xs.length):
  PO (Ad e xs) off cn sz z ((Ad e xs).take (off*sz)++(List.replicate cn z).flatten++(Ad e xs).drop ((off+cn)*sz)):=by
 refine⟨?_,rfl⟩
 rw[Hq hl]
 exact YP _ h
theorem e9{α:Type}{e:α→List D}{xs:List α}{off sz:Nat}{A B:List AV}(hl:∀x,(e x).length=sz)(h:off≤xs.length):∃m,((Ad e xs).take (off*sz)++A++B).take m=Ad e (xs.take off):=by
 refine⟨off*sz,?_⟩
 have a:((Ad e xs).take (off*sz)).length=off*sz:=by
  rw[Y8,Hq hl]
  exact G8 (YP _ h)
 rw[Ep,List.take_append_of_le_length (by omega),Rm (by omega),Oz hl]
def EV(n:Nat):List (Aa×Blk)→Bool
 |[]=>true
 |(k,_)::r=>Nat.beq k.1 0&&Nat.ble (k.2+1) n&&EV n r
theorem OS{n:Nat}:∀{hs:List (Aa×Blk)},EV n hs=true→∀k,(Ak hs k).live=true→k.1=0∧k.2<n
 |[],_,k,h=>by simp[Ak,CW]at h
 |(q,b)::r,hi,k,h=>by
  simp only[EV,Yc]at hi
  simp only[Ak]at h
  split at h
  ·rename_i a
   have a:=Bq.1 a
   subst a
   exact⟨Ya hi.1.1,Yd hi.1.2⟩
  ·exact OS hi.2 k h
theorem Oe{n:Nat}:∀{hs:List (Aa×Blk)},EV n hs=true→∀d,Ak hs (1,d)=CW
 |[],_,d=>rfl
 |(q,b)::r,hi,d=>by
  simp only[EV,Yc]at hi
  simp only[Ak]
  split
  ·rename_i a
   have a:=Bq.1 a
   subst a
   have:=Ya hi.1.1
   grind
  ·exact Oe hi.2 d
def Gg(H:Hp)(r:Ren)(hs:List (Aa×Blk)):Nat→List Aa→Prop
 |_,[]=>True
 |i,k::ks=>((H k).g=r.γ (0,i)+(Ak hs (0,i)).g∧((Ak hs (0,i)).live=true→H k=An r (0,i) (Ak hs (0,i))))∧Gg H r hs (i+1) ks
theorem O8{H:Hp}{r:Ren}{hs:List (Aa×Blk)}:∀{ks:List Aa} {i:Nat},Gg H r hs i ks→∀j k,ks[j]?=some k→(H k).g=r.γ (0,i+j)+(Ak hs (0,i+j)).g∧((Ak hs (0,i+j)).live=true→H k=An r (0,i+j) (Ak hs (0,i+j)))
 |[],i,_,j,k,h=>by simp at h
 |q::ks,i,h,0,k,a=>by
  simp only[YW,Yh]at a
  subst a
  exact h.1
 |q::ks,i,h,j+1,k,a=>by
  have:=O8 h.2 j k (by simpa using a)
  grind
def FR(l:Nat):List Aa→Prop
 |[]=>True
 |k::ks=>k.1≤l∧FR l ks
theorem KZ{l:Nat}:∀{ks:List Aa},FR l ks→∀k∈ks,k.1≤l
 |q::ks,h,k,a=>by
  rcases YJ.1 a with rfl|a
  ·exact h.1
  ·exact KZ h.2 k a
def F3:Nat→List Nat
 |0=>[]
 |n+1=>F3 n++[n]
theorem KN:∀{n i:Nat},i<n→i∈F3 n
 |n+1,i,h=>by
  simp only[F3,J2,Iq]
  rcases Yw i n with a|a
  ·exact .inl (KN a)
  grind
theorem bg{P:Program}{T:Nat→Option TI}{n:Nat}{f:FuncId}{fn:Func}(u:List ResultVar)(c:Code){l:Nat}{xs:List AV}{H:Hp}{a:AV→Hp→Prop}(ks:List Aa)(g:List Nat)(os:Nat)(θ:Nat→AV)(ys:List AV)(hs:List (Aa×Blk))(Y:AV)(e:List Blk){Y':AV}{bs':List Blk}
  (A:P.funcs[f]?=some fn) (hb:fn.body=some c) (d:(fn.name== "runtime.NumGoroutine")=false) (D:fn.ntmps=n) (F:fn.results.toList=u) (hx:xs.length≤n) (x:AL P T) (s:ks.length=os)
  (p:FR l ks) (q:ks.Nodup) (j:EV os hs=true) (w:Gg H (Bp l ks g θ H) hs 0 ks) (t:Ae (Bp l ks g θ H) ys=xs) (m:e.length=os) (o:∀b∈e,b.live=true) (z:∀r,Ff l ks g r→ren r Y=Y') (v:∀r,Ff l ks g r→BH r 0 e=bs')
  (h:∀C,CxOk C→C.outs=os→C.fx=F3 os→C.l=l→C.H0=H→C.θ=θ→C.κ=Ch l ks→C.no=(fun k=>k∈ks)→LW P n C c (Ab (B4 0 ys) hs) (FQ T u os (fun y b=>y=Y∧b=e)))
  (E:a Y' (B5 H ks bs')):Zbb P f l xs H a:=by
 subst s
 exact cW u c ks g (F3 ks.length) θ ys hs Y e A hb d D F hx x (KZ p) q (fun i hi=>KN hi) (Oe j) (OS j) (fun i k B=>by have:=O8 w i k B;rw[YL]at this;exact this) t m o z v h E
theorem bZ{α:Type}{e e':α→List D}{xs:List α}{j sz:Nat}{x:α}(hx:xs[j]?=some x)(hl:∀x,(e x).length=sz)(he:∀x,e x=e' x):D0 (Ad e xs) (j*sz) ((e' x).map .d):=by
 have a:j<xs.length:=by
  grind
 have:=bA (z:=x) a hl he
 grind
theorem fF{P:Program}{l o:Nat}{no b:Aa→Prop}{H j:Hp}{c:AV}{m:List AV}{y:AV}(h:BC P l no H c m y)(hl:l≤o)(i:∀q:Aa,q.1≤l→¬no q→¬b q)(r:∀q:Aa,q.1≤l→¬no q→j q=H q):BC P o b j c m y:=by
 obtain⟨f,first,a,e,h⟩:=h
 exact⟨f,first,a,e,fun t p g s=>h t p (Y2 hl g) fun k d n=>by rw[s k (Y2 d hl) (i k d n),r k d n]⟩
def Uk:Code→Operand
 |.cond o _ _=>o
 |_=>.tmp 0
def Dj(c:Code)(k:Nat):Option Nat:=match D2 c k with|some (d,_,_)=>d|none=>none
def callF(c:Code)(k:Nat):Operand:=match D2 c k with|some (_,f,_)=>f|none=>.tmp 0
def D4(c:Code)(k:Nat):List Operand:=match D2 c k with|some (_,_,xs)=>xs|none=>[]
theorem TB{P:Program}{n:Nat}{C:Cx}{Q:Exit→St→Prop}(m:CxOk C){os:Nat}{fx:List Nat}(p:C.outs=os)(o:C.fx=fx){c:Code}{k:Nat}{ss:List (Nat×AV)}{hs:List (Aa×Blk)}
  (f:FuncId) (first a xs:List AV) (i:D2 c k=some (Dj c k,callF c k,D4 c k)) (q:ev (As ss) (callF c k)=.fn (.func f) first a) (l:first++(D4 c k).map (ev (As ss))++a=xs) (ks:List Aa) (hb:List (Aa×Blk)) (e:(ks.map fun k=>(k,Ak hs k))=hb)
  (x:AV) (hb2:List (Aa×Blk)) (fr fl:List Aa) (g:(B1 os hb2&&HU fr hb2&&HD fr fx&&EG hs&&HJ n (Dj c k)&&ks.all (AZ os))=true) (j:C9 C hb2) (d:F5 (Ak hs) fl)
  (b:∀r:Ren,r.θ=C.θ→r.H0=C.H0→r.κ=C.κ→r.no=C.no→EL P C.l r f xs hb x hb2 fr)
  (h:LO P n C c (k+1) (Ab (Eb (Dj c k) x (Cn fr ss)) (hb2++BN (hb2.map (·.1)) fr fl hs)) Q):LO P n C c k (Ab ss hs) Q:=
 ga m p o _ _ _ i f first a xs q l ks hb e x hb2 fr fl g j d b h
end Go.Eng
namespace Go.Eng
open Go
set_option linter.all false
end Go.Eng
namespace Go.Eng
set_option linter.all false
open Go Go.RowKit Go.Shelf
theorem fH{α:Type}{e:α→List D}{xs:List α}{l h:Nat}(q:Du l h xs.length):Du l h (xs.map e).length:=by rw[YF];exact q
theorem gE{α:Type}{e:α→List D}{xs:List α}{sz:Nat}(he:∀x,(e x).length=sz):∀d,d∈xs.map e→d.length=sz:=fun d h=>by
 grind
theorem fY{α:Type}{e:α→List D}{xs:List α}{sz l h:Nat}(he:∀x,(e x).length=sz):JZ (xs.map e) sz l h (((xs.drop l).take (h-l)).map e):=
 ⟨gE he,by rw[←List.map_drop,←List.map_take]⟩
theorem bX{i:Int}{len sz:Nat}(a:0≤i)(h:i<len):HY i len 0 sz (i.toNat*sz):=⟨a,h,by simp⟩
end Go.Eng
namespace Go.Eng
set_option linter.all false
theorem ey{α:Type}{e e':α→List D}{xs:List α}{j sz:Nat}{y:α}(a:j<xs.length)(hl:∀x,(e x).length=sz)(he:∀x,e x=e' x):G4 (Ad e xs) (j*sz) ((e' y).map .d) (Ad e (xs.set j y)):=by
 rw[←he];exact iq a hl
theorem SL{α:Type}{sz:Nat}{e e':α→List D}{y:α}(C:List AV)(hl:∀x,(e x).length=sz)(he:∀x,e x=e' x):Ea sz C (.d (.list [e' y])) 1 (Ad e [y]):=by
 rw[dE,he];exact fA C (by rw[←he];exact hl y)
theorem gm{α:Type}{e:α→List D}{z:α}{c:List AV}(a:(e z).map .d=c)(m:Nat):(List.replicate m c).flatten=Ad e (List.replicate m z):=by
 subst a
 induction m with
 |zero=>rfl
 |succ m b=>rw[M7,Gk,b,M7,Hk]
end Go.Eng
namespace Go.Eng
set_option linter.all false
open Go Go.RowKit
section
variable {P:Program} {T:Nat→Option TI} {n:Nat} {C:Cx} {τ:St} {Q:Exit→St→Prop}
theorem fK(f:CxOk C){os:Nat}{fx:List Nat}(k:C.outs=os)(i:C.fx=fx){c:Code}(a:AT)(lf:Lf)(q:Ren→(St→Prop)→Prop)
  (m:∀r Φ,AG r os a τ (fun τ _=>Co fx lf τ Φ)=q r Φ) (h:∀r,r.θ=C.θ→r.H0=C.H0→r.κ=C.κ→r.no=C.no→q r (fun τ'=>LW P n C c τ' Q)):LW P n C c τ Q:=by
 subst k
 subst i
 intro γ σ l j
 have e:=h (C.r γ) rfl rfl rfl rfl
 rw[←m]at e
 obtain⟨y,w,x,g,b,d⟩:=Bh (n:=n) f a e j
 obtain⟨u,z,v,o,p,s,t⟩:=Ez (n:=n) f g l b
 exact A5.weak (p u v o s) (d.trans t)
end
end Go.Eng
