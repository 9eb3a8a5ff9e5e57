import Derived.Test.YtifefgdogdecnaaGreatDoorEa07
import Derived.Shelf.Spec.SlicesGrow
import Derived.Test.YtifefgdogdecnaaGreatDoorEa00
namespace Go.Eng
structure Raw where
 num:Int
 wire:Int
 bits:Int
 data:ByteArray
deriving Inhabited,DecidableEq
mutual
inductive Val where
 |mk (kind bits:Int) (text:ByteArray) (list:List Val) (pairs:List Pr) (slots:List Slt) (raws:List Raw)
inductive Pr where
 |mk (key val:Val)
inductive Slt where
 |mk (num:Int) (val:Val)
end
inductive Msk where
 |mk (num:Int) (subs:List Msk)
instance:Inhabited Val:=⟨.mk 0 0 .empty [] [] [] []⟩
instance:Inhabited Pr:=⟨.mk default default⟩
instance:Inhabited Slt:=⟨.mk 0 default⟩
instance:Inhabited Msk:=⟨.mk 0 []⟩
def Val.kind:Val→Int|.mk k _ _ _ _ _ _=>k
def Val.bits:Val→Int|.mk _ b _ _ _ _ _=>b
def Val.text:Val→ByteArray|.mk _ _ t _ _ _ _=>t
def Val.list:Val→List Val|.mk _ _ _ l _ _ _=>l
def Val.pairs:Val→List Pr|.mk _ _ _ _ p _ _=>p
def Val.slots:Val→List Slt|.mk _ _ _ _ _ s _=>s
def Val.raws:Val→List Raw|.mk _ _ _ _ _ _ r=>r
def Pr.key:Pr→Val|.mk k _=>k
def Pr.val:Pr→Val|.mk _ v=>v
def Slt.num:Slt→Int|.mk n _=>n
def Slt.val:Slt→Val|.mk _ v=>v
def Msk.num:Msk→Int|.mk n _=>n
def Msk.subs:Msk→List Msk|.mk _ s=>s
def Xr(s:ByteArray):List D:=[.str s]
def Bq(s:Int):List D:=[.int .i64 s]
def lV(s:Bool):List D:=[.bool s]
def Aj(x:Raw):List D:=[.int .i64 x.num,.int .i64 x.wire,.int .u64 x.bits,.str x.data]
mutual
def Ag:Val→List D
 |.mk k b t l p s r=>[.int .i64 k,.int .u64 b,.str t,.list (Lh l),.list (L3 p),.list (La s),.list (r.map Aj)]
def Lh:List Val→List (List D)
 |[]=>[]
 |v::vs=>Ag v::Lh vs
def Ax:Pr→List D
 |.mk k v=>Ag k++Ag v
def L3:List Pr→List (List D)
 |[]=>[]
 |v::vs=>Ax v::L3 vs
def Af:Slt→List D
 |.mk n v=>.int .i64 n::Ag v
def La:List Slt→List (List D)
 |[]=>[]
 |v::vs=>Af v::La vs
end
mutual
def Jo:Msk→List D
 |.mk n s=>[.int .i64 n,.list (Lb s)]
def Lb:List Msk→List (List D)
 |[]=>[]
 |v::vs=>Jo v::Lb vs
end
theorem dD(l:List Val):Lh l=l.map Ag:=by induction l with|nil=>rfl|cons v l a=>simp[Lh,a]
theorem dR(l:List Pr):L3 l=l.map Ax:=by induction l with|nil=>rfl|cons v l a=>simp[L3,a]
theorem cB(l:List Slt):La l=l.map Af:=by induction l with|nil=>rfl|cons v l a=>simp[La,a]
theorem cF(l:List Msk):Lb l=l.map Jo:=by induction l with|nil=>rfl|cons v l a=>simp[Lb,a]
def Ac(x:Val):List D:=[.int .i64 x.kind,.int .u64 x.bits,.str x.text,.list (x.list.map Ag),.list (x.pairs.map Ax),.list (x.slots.map Af),.list (x.raws.map Aj)]
def Do(x:Pr):List D:=[.int .i64 x.key.kind,.int .u64 x.key.bits,.str x.key.text,.list (x.key.list.map Ag),.list (x.key.pairs.map Ax),.list (x.key.slots.map Af),.list (x.key.raws.map Aj),.int .i64 x.val.kind,.int .u64 x.val.bits,.str x.val.text,.list (x.val.list.map Ag),.list (x.val.pairs.map Ax),.list (x.val.slots.map Af),.list (x.val.raws.map Aj)]
def Bm(x:Slt):List D:=[.int .i64 x.num,.int .i64 x.val.kind,.int .u64 x.val.bits,.str x.val.text,.list (x.val.list.map Ag),.list (x.val.pairs.map Ax),.list (x.val.slots.map Af),.list (x.val.raws.map Aj)]
def X5(x:Msk):List D:=[.int .i64 x.num,.list (x.subs.map Jo)]
theorem Cu(v:Val):Ag v=Ac v:=by
 cases v;simp[Ag,Ac,dD,dR,cB,Val.kind,Val.bits,Val.text,Val.list,Val.pairs,Val.slots,Val.raws]
theorem Hu(v:Pr):Ax v=Do v:=by cases v;simp[Ax,Cu,Ac,Do,Pr.key,Pr.val]
theorem Hk(v:Slt):Af v=Bm v:=by cases v;simp[Af,Cu,Ac,Bm,Slt.num,Slt.val]
theorem lR(v:Msk):Jo v=X5 v:=by cases v;simp[Jo,X5,cF,Msk.num,Msk.subs]
structure Typ where
 kind:Int
 name:ByteArray
deriving Inhabited,DecidableEq
def PG(x:Typ):List D:=[.int .i64 x.kind,.str x.name]
structure Nt where
 name:ByteArray
 val:Val
deriving Inhabited
def H1(x:Nt):List D:=[.str x.name,.int .i64 x.val.kind,.int .u64 x.val.bits,.str x.val.text,.list (x.val.list.map Ag),.list (x.val.pairs.map Ax),.list (x.val.slots.map Af),.list (x.val.raws.map Aj)]
structure Fld where
 num:Int
 name:ByteArray
 card:Int
 key:Int
 type:Typ
 union:ByteArray
 hasDefault:Bool
 dflt:Val
 notes:List Nt
deriving Inhabited
def Aw(x:Fld):List D:=[.int .i64 x.num,.str x.name,.int .i64 x.card,.int .i64 x.key,.int .i64 x.type.kind,.str x.type.name,.str x.union,.bool x.hasDefault,.int .i64 x.dflt.kind,.int .u64 x.dflt.bits,.str x.dflt.text,.list (x.dflt.list.map Ag),.list (x.dflt.pairs.map Ax),.list (x.dflt.slots.map Af),.list (x.dflt.raws.map Aj),.list (x.notes.map H1)]
structure Spn where
 lo:Int
 hi:Int
deriving Inhabited,DecidableEq
def XN(x:Spn):List D:=[.int .i64 x.lo,.int .i64 x.hi]
structure By where
 b:UInt8
deriving Inhabited,DecidableEq
def By.v(x:By):Int:=x.b.toNat
def l2(x:By):List D:=[.int .u8 x.v]
structure Msg where
 name:ByteArray
 fields:List Fld
 reserved:List Spn
 gone:List ByteArray
 notes:List Nt
deriving Inhabited
def An(x:Msg):List D:=[.str x.name,.list (x.fields.map Aw),.list (x.reserved.map XN),.list (x.gone.map Xr),.list (x.notes.map H1)]
structure Itm where
 name:ByteArray
 num:Int
 notes:List Nt
deriving Inhabited
def jV(x:Itm):List D:=[.str x.name,.int .i64 x.num,.list (x.notes.map H1)]
structure Enm where
 name:ByteArray
 opn:Bool
 items:List Itm
 reserved:List Spn
 notes:List Nt
deriving Inhabited
def AC(x:Enm):List D:=[.str x.name,.bool x.opn,.list (x.items.map jV),.list (x.reserved.map XN),.list (x.notes.map H1)]
structure Mth where
 name:ByteArray
 inn:ByteArray
 out:ByteArray
 shape:Int
 notes:List Nt
deriving Inhabited
def kT(x:Mth):List D:=[.str x.name,.str x.inn,.str x.out,.int .i64 x.shape,.list (x.notes.map H1)]
structure Svc where
 name:ByteArray
 methods:List Mth
 notes:List Nt
deriving Inhabited
def AS(x:Svc):List D:=[.str x.name,.list (x.methods.map kT),.list (x.notes.map H1)]
structure Scm where
 messages:List Msg
 enums:List Enm
 services:List Svc
deriving Inhabited
def AL(x:Scm):List D:=[.list (x.messages.map An),.list (x.enums.map AC),.list (x.services.map AS)]
structure Fil where
 name:ByteArray
 space:ByteArray
 imports:List ByteArray
 messages:List Msg
 enums:List Enm
 services:List Svc
deriving Inhabited
def lS(x:Fil):List D:=[.str x.name,.str x.space,.list (x.imports.map Xr),.list (x.messages.map An),.list (x.enums.map AC),.list (x.services.map AS)]
structure Prb where
 dfn:ByteArray
 num:Int
 err:Int
deriving Inhabited,DecidableEq
def lW(x:Prb):List D:=[.str x.dfn,.int .i64 x.num,.int .i64 x.err]
structure Stp where
 num:Int
 pos:Int
 hasKey:Bool
 key:Val
deriving Inhabited
def Ap(x:Stp):List D:=[.int .i64 x.num,.int .i64 x.pos,.bool x.hasKey,.int .i64 x.key.kind,.int .u64 x.key.bits,.str x.key.text,.list (x.key.list.map Ag),.list (x.key.pairs.map Ax),.list (x.key.slots.map Af),.list (x.key.raws.map Aj)]
structure Edt where
 path:List Stp
 kind:Int
 val:Val
deriving Inhabited
def Au(x:Edt):List D:=[.list (x.path.map Ap),.int .i64 x.kind,.int .i64 x.val.kind,.int .u64 x.val.bits,.str x.val.text,.list (x.val.list.map Ag),.list (x.val.pairs.map Ax),.list (x.val.slots.map Af),.list (x.val.raws.map Aj)]
class Mv (V:Type) where
 q:Bool
 e:V→List D
 z:V
def lF{V:Type}[Mv V](p:ByteArray×V):List D:=.str p.1::Mv.e p.2
instance:Mv (List Int):=⟨false,fun x=>[.list (x.map Bq)],[]⟩
instance (V:Type) [Mv V]:Mv (List (ByteArray×V)):=⟨false,fun m=>[.map (Mv.q V) (m.map lF)],[]⟩
structure Web where
 messages:List (ByteArray×Msg)
 enums:List (ByteArray×Bool)
deriving Inhabited
structure Lst where
 dfn:ByteArray
 l:List Prb
deriving Inhabited
structure Acs where
 m:Msg
 s:Scm
deriving Inhabited
structure Prt where
 sl:List Slt
 rw:List Raw
deriving Inhabited
def kK(x:Prt):List D:=[.list (x.sl.map Af),.list (x.rw.map Aj)]
structure Dfr where
 s:Scm
 out:List Edt
deriving Inhabited
structure P2 where
 a:Int
 b:Int
deriving Inhabited,DecidableEq
def Cc(x:P2):List D:=[.int .i64 x.a,.int .i64 x.b]
structure Nod where
 kind:Int
 bits:Int
 text:ByteArray
 list:Int
 pairs:Int
 slots:Int
 raws:Int
deriving Inhabited,DecidableEq
structure Lnk where
 files:List Fil
 f:Fil
 known:List ByteArray
 messages:List ByteArray
 enums:List Enm
deriving Inhabited
def EE(x:List Int):List D:=[.list (x.map Bq)]
def kF:Raw:=⟨0,0,0,⟨#[]⟩⟩
def FF:Val:=.mk 0 0 ⟨#[]⟩ [] [] [] []
def lQ:Pr:=.mk FF FF
def kc:Slt:=.mk 0 FF
def lX:Msk:=.mk 0 []
def jY:Typ:=⟨0,⟨#[]⟩⟩
def l8:Nt:=⟨⟨#[]⟩,FF⟩
def kG:Fld:=⟨0,⟨#[]⟩,0,0,jY,⟨#[]⟩,false,FF,[]⟩
def lT:Spn:=⟨0,0⟩
def l7:By:=⟨0⟩
def ko:Msg:=⟨⟨#[]⟩,[],[],[],[]⟩
def lZ:Itm:=⟨⟨#[]⟩,0,[]⟩
def kV:Enm:=⟨⟨#[]⟩,false,[],[],[]⟩
def lU:Mth:=⟨⟨#[]⟩,⟨#[]⟩,⟨#[]⟩,0,[]⟩
def l0:Svc:=⟨⟨#[]⟩,[],[]⟩
def lY:Fil:=⟨⟨#[]⟩,⟨#[]⟩,[],[],[],[]⟩
def l1:Prb:=⟨⟨#[]⟩,0,0⟩
def kE:Stp:=⟨0,0,false,FF⟩
def kB:Edt:=⟨[],0,FF⟩
def lP:P2:=⟨0,0⟩
end Go.Eng
namespace Go.Eng
set_option linter.all false
open Go Go.RowKit
def EP:List Nat→Code→Code
 |[],c=>c
 |0::p,.seq a _=>EP p a
 |_::p,.seq _ b=>EP p b
 |0::p,.cond _ a _=>EP p a
 |_::p,.cond _ _ b=>EP p b
 |_::p,.block _ c=>EP p c
 |_::p,.loop c=>EP p c
 |_::p,.scope c=>EP p c
 |_,c=>c
def AA(f:Func):Code:=f.body.getD .skip
def Ad{α:Type}(e:α→List D)(xs:List α):List AV:=((xs.map e).flatten).map .d
theorem CK{α:Type}(e:α→List D)(xs:List α):ED (Ad e xs):=fun x hx=>by
 obtain⟨d,_,rfl⟩:=YO.1 hx;rfl
theorem Hf{α:Type}{e:α→List D}{sz:Nat}(he:∀x,(e x).length=sz)(xs:List α):(Ad e xs).length=xs.length*sz:=by
 unfold Ad
 induction xs with
 |nil=>simp
 |cons x xs a=>simp only[YH,Y3,Gc,YB,he,Y4,YK]at a⊢;omega
theorem S3{α:Type}(e:α→List D)(xs ys:List α):Ad e (xs++ys)=Ad e xs++Ad e ys:=by simp[Ad]
section
variable {P:Program} {n:Nat} {C:Cx} {τ:St} {Q:Exit→St→Prop}
theorem cR{c:Code}(id:Nat)(x:Code)(b:c=.block id x)(h:LW P n C x τ (fun e τ'=>match e with|.exit i=>(match Nat.beq i id with|true=>Q .normal τ'|false=>Q (.exit i) τ')|e=>Q e τ')):LW P n C c τ Q:=b▸ej (h.mono fun e τ' a=>by
 cases e with
 |exit i=>
  simp only at a⊢
  split at a
  ·rename_i he;rw[Yj (Ya he)];exact a
  ·rename_i he;rw[Yt (by rintro rfl;simp at he)];exact a
 |_=>exact a)
end
theorem bm{P:Program}{T:Nat→Option TI}{n:Nat}{f:FuncId}{fn:Func}(e:List ResultVar)(c:Code){l:Nat}{xs:List AV}{H:Hp}{a:AV→Hp→Prop}(θ:Nat→AV)(ys:List AV)
  (j:P.funcs[f]?=some fn) (hb:fn.body=some c) (b:(fn.name== "runtime.NumGoroutine")=false) (o:fn.ntmps=n) (r:fn.results.toList=e) (hx:xs.length≤n) (g:AJ P T)
  (d:Ae ⟨fun k=>(l+1,k.2),fun _=>0,θ,H,fun _=>False⟩ ys=xs) (h:∀B:Base,LW P n (Mh l θ H B) c (Ab (B0 0 ys) []) (FQ T e 0 (fun y _=>a y H))):Zbb P f l xs H a:=
 SX e (Mh l θ H) (γ:=fun _=>0) (LPost:=fun y _=>a y H) j hb b o r hx g (fun B=>Sr l B θ H) (fun B=>⟨rfl,rfl,rfl,trivial⟩) (fun B=>d) (fun _=>rfl) (fun _=>rfl) (fun B k m=>by simp[Ak,CT]at m) (fun B i hi=>absurd hi (Ek _))
  (fun B γ y t s _ q p hy=>by rw[hy rfl,dk p];exact q) h
theorem gj{α:Type}(e:α→List D)(xs:List α):AZ ((xs.map e).length:Nat) xs.length:=by simp[AZ]
theorem Tv{α:Type}{e e':α→List D}{xs:List α}{i:Nat}{x:α}(hx:xs[i]?=some x)(he:∀x,e x=e' x):FC (xs.map e) (i:Nat) (e' x):=⟨by omega,by simp[hx,he]⟩
theorem g9{α:Type}{e e':α→List D}{xs:List α}{i:Nat}{z:α}(hi:i<xs.length)(he:∀x,e x=e' x):FC (xs.map e) (i:Nat) (e' (xs.getD i z)):=by
 refine Tv ?_ he
 grind
theorem OT{a r:Int}(h:a=r)(b: -9223372036854775808≤r)(c:r<9223372036854775808):Bp .i64 a r:=by
 subst h;exact IntWalk.i64_in _ ⟨b,by omega⟩
theorem i9{i len sz:Nat}(h:i<len):HJ (i:Nat) len 0 sz (i*sz):=⟨by omega,by omega,by simp⟩
theorem db{sz:Nat}{e:List D}(C:List AV)(he:e.length=sz):Ea sz C (.d (.list [e])) 1 (e.map .d):=by
 refine⟨Yo.2 fun x hx=>?_,fun q a=>?_,rfl,by simp⟩
 ·obtain⟨d,_,rfl⟩:=YO.1 hx;rfl
 grind
theorem dB{α:Type}{sz:Nat}{e:α→List D}(C:List AV)(xs:List α)(he:∀x,(e x).length=sz):Ea sz C (.d (.list (xs.map e))) xs.length (Ad e xs):=by
 refine⟨Yo.2 fun x hx=>?_,fun q a=>?_,by simp,rfl⟩
 ·obtain⟨d,_,rfl⟩:=YO.1 hx;rfl
 grind
theorem da{α:Type}{sz byt:Nat}{e:α→List D}(xs ys:List α){a:Nat}(he:∀x,(e x).length=sz)(b:xs.length+ys.length=a)(hb:a*byt≤140737488355328):
  LM (Ad e xs) 0 xs.length ys.length sz byt (Ad e ys) (Ad e (xs++ys)) a:=
 ⟨by rw[Hf he,YL],by rw[G3,M3,S3],b,hb⟩
theorem dt{α:Type}(e:α→List D)(x:α):Ad e [x]=(e x).map .d:=by simp[Ad]
theorem Tj{α:Type}{sz:Nat}{e:α→List D}(xs:List α)(b:sz≠0)(he:∀x,(e x).length=sz):GX (Ad e xs) 0 xs.length sz (xs.map e):=
 ⟨by simp,b,fun q a=>by obtain⟨x,_,rfl⟩:=YO.1 a;exact he x,by rw[Hf he];simp,by rw[G3,M3,←Hf he xs,List.take_length];rfl⟩
theorem S1{α:Type}{e e':α→List D}{xs:List α}{i:Int}{z:α}(a:0≤i)(hi:i<xs.length)(he:∀x,e x=e' x):FC (xs.map e) i (e' (xs.getD i.toNat z)):=by
 have h:=g9 (e:=e) (e':=e') (xs:=xs) (i:=i.toNat) (z:=z) (by omega) he
 grind
theorem cw{α:Type}{sz byt c:Nat}{e:α→List D}{news:List AV}(xs ys:List α)(he:∀x,(e x).length=sz)(a:ys.length=c)(b:news=Ad e ys)(hb:(xs.length+ys.length)*byt≤140737488355328):
  LM (Ad e xs) 0 xs.length c sz byt news (Ad e (xs++ys)) (xs++ys).length:=by
 subst a;subst b
 exact da xs ys he (by rw[YB]) (by rw[YB];exact hb)
section
variable {P:Program} {l:Nat} {r:Ren} {f:FuncId} {xs xs':List AV} {hb:List (Aa×Blk)} {x x':AV}
def Bz(P:Program)(l:Nat)(no:Aa→Prop)(H:Hp)(c:AV)(g:List AV)(y:AV):Prop:=
 ∃f first a,c=.fn (.func f) first a∧∀e b,l≤e→(∀k:Aa,k.1≤l→¬no k→b k=H k)→Zbb P f e (first++g++a) b (fun h d=>h=y∧d=b)
theorem dp{i:Nat}{c:AV}(j:r.θ i=c)(h:Bz P l r.no r.H0 c xs' x')(d:Ae r xs=xs')(e:ren r x=x'):Jc P l r i xs hb x:=by
 obtain⟨f,first,a,rfl,h⟩:=h
 exact⟨f,first,a,j,fun b _ g=>by rw[d,e];exact h (l+1) b (Nat.le_succ l) g⟩
theorem dZ{H:Hp}{no:Aa→Prop}{d:List AV}{y:AV}(h:∀c a,Zbb P f c d a (fun e b=>e=y∧b=a)):Bz P l no H (.fn (.func f) [] []) d y:=
 ⟨f,[],[],rfl,fun c a _ _=>by simpa using h c a⟩
end
section
variable {P:Program} {T:Nat→Option TI} {n:Nat} {C:Cx} {τ:St} {Q:Exit→St→Prop}
theorem gR(g:CxOk C)(k:AJ P T)(hm:P.follows .mixedOrders=true){os:Nat}{fx:List Nat}(d:C.outs=os)(i:C.fx=fx){c:Code}(a:AT)(lf e:Lf)(f:List ResultVar){b:AV→List Blk→Prop}(q:Ren→(Exit→St→Prop)→(AV→List Blk→Prop)→Prop)
  (l:∀r Q b,Bx P T C.l n os r c a τ (KB T f os fx r b lf e Q)=q r Q b) (j:∀τ,FQ T f os b .ret τ→Q .ret τ) (h:∀r,r.θ=C.θ→r.H0=C.H0→r.κ=C.κ→r.no=C.no→q r Q b):LW P n C c τ Q:=
 iq g k hm a lf e (by rw[d];exact j) (fun γ=>by rw[d,i,l];exact h _ rfl rfl rfl rfl)
theorem gi(e:CxOk C)(g:AJ P T)(hm:P.follows .mixedOrders=true){os:Nat}(f:C.outs=os){c:Code}(a:AT)(d:List ResultVar){b:AV→List Blk→Prop}(q:Ren→(AV→List Blk→Prop)→Prop)
  (i:∀r b,Bx P T C.l n os r c a τ (KF T d os b)=q r b) (h:∀r,r.θ=C.θ→r.H0=C.H0→r.κ=C.κ→r.no=C.no→q r b):LW P n C c τ (FQ T d os b):=by
 subst f
 exact iv e g hm a (fun γ=>by rw[i];exact h _ rfl rfl rfl rfl)
mutual
theorem dO{H:Hp}:∀(x:AV) {a:AT} {K c:AV→AT→Prop},(∀y a,K y a→c y a)→frz H x a K→frz H x a c
 |.d x,a,K,c,b,h=>b _ _ h
 |.e0,a,K,c,b,h=>b _ _ h
 |.agg xs,a,K,c,b,h=>Sj xs (fun ys a h=>b _ _ h) h
 |.ref k g off m,a,K,c,b,h=>by
  unfold frz at h⊢
  grind
 |.top,a,K,c,b,h=>by simp only[frz]at h
 |.p _,a,K,c,b,h=>b _ _ h
 |.ptr _ _ _,a,K,c,b,h=>by simp only[frz]at h
 |.mp k g,a,K,c,b,h=>by
  unfold frz at h⊢
  grind
 |.iptr _ _,a,K,c,b,h=>by simp only[frz]at h
 |.ifc _ _ _,a,K,c,b,h=>b _ _ h
 |.fn _ _ _,a,K,c,b,h=>by simp only[frz]at h
 |.tup _,a,K,c,b,h=>by simp only[frz]at h
theorem Sj{H:Hp}:∀(xs:List AV) {a:AT} {K b:List AV→AT→Prop},(∀y a,K y a→b y a)→FK H xs a K→FK H xs a b
 |[],a,K,b,c,h=>c _ _ h
 |x::xs,a,K,b,c,h=>by
  simp only[FK]at h⊢
  exact dO x (fun y a h=>Sj xs (fun ys a h=>c _ _ h) h) h
end
end
theorem Ha{α:Type}(e:α→List D)(x:α)(xs:List α):Ad e (x::xs)=(e x).map .d++Ad e xs:=by simp[Ad]
theorem Oa{α:Type}{e:α→List D}{sz:Nat}(hl:∀x,(e x).length=sz):∀(xs:List α) (j:Nat),(Ad e xs).drop (j*sz)=Ad e (xs.drop j)
 |[],j=>by simp[Ad]
 |x::xs,0=>by simp
 |x::xs,j+1=>by
  have a:((e x).map AV.d).length=sz:=by rw[YH,hl]
  rw[Ha,YK,Ir,J6,←List.drop_drop,List.drop_left' a,Oa hl xs j]
  rfl
theorem NP{α:Type}{e:α→List D}{sz:Nat}(hl:∀x,(e x).length=sz):∀(xs:List α) (j:Nat),(Ad e xs).take (j*sz)=Ad e (xs.take j)
 |[],j=>by simp[Ad]
 |x::xs,0=>by simp[Ad]
 |x::xs,j+1=>by
  have a:((e x).map AV.d).length=sz:=by rw[YH,hl]
  rw[Ha,List.take_succ_cons,Ha,YK,Ir,J6,List.take_append,a,Nat.add_sub_cancel_left,NP hl xs j,QS (by omega)]
theorem gA{α:Type}{xs:List α}{j:Nat}{z:α}(a:j<xs.length):xs.drop j=xs.getD j z::xs.drop (j+1):=by
 rw[YN a,Iq,Yb a];rfl
theorem aI{α:Type}{e e':α→List D}{xs:List α}{j sz:Nat}{z:α}(a:j<xs.length)(hl:∀x,(e x).length=sz)(he:∀x,e x=e' x):DX (Ad e xs) (j*sz) ((e' (xs.getD j z)).map .d):=by
 unfold DX
 rw[Oa hl,gA (z:=z) a,Ha,he,List.take_left]
theorem gg{α:Type}{e:α→List D}{xs:List α}{j sz:Nat}{y:α}(b:j<xs.length)(hl:∀x,(e x).length=sz):GY (Ad e xs) (j*sz) ((e y).map .d) (Ad e (xs.set j y)):=by
 have a:((e y).map AV.d).length=sz:=by rw[YH,hl]
 have c:(j+1)*sz≤xs.length*sz:=YP _ b
 rw[YK,Ir]at c
 refine⟨by rw[a,Hf hl];omega,?_⟩
 rw[a,NP hl,show j*sz+sz=(j+1)*sz from by rw[YK,Ir],Oa hl,List.set_eq_take_append_cons_drop,Yj b,S3,Ha,Ej]
def BN(r:Ren):List (Aa×Blk)→Hp→Hp
 |[],H=>H
 |(k,b)::a,H=>BN r a (updH H (r.κ k) (Ao r k b))
def EB(P:Program)(l:Nat)(r:Ren)(f:FuncId)(xs:List AV)(e:List (Aa×Blk))(x:AV)(c:List (Aa×Blk))(fr:List Aa):Prop:=
 ∀a,(∀p∈e,(a (r.κ p.1)).g=r.γ p.1+p.2.g∧(p.2.live=true→a (r.κ p.1)=Ao r p.1 p.2))→(∀k:Aa,k.1≤l→¬r.no k→a k=r.H0 k)→
  Zbb P f (l+1) (Ae r xs) a (fun y b=>∃d:Aa→Nat,(∀k,k∉fr→d k=r.γ k)∧y=ren ⟨r.κ,d,r.θ,r.H0,r.no⟩ x∧b=BN ⟨r.κ,d,r.θ,r.H0,r.no⟩ c a)
mutual
def D0(fr:List Aa):AV→Bool
 |.ref k _ _ _=>fr.any (AX k)
 |.ptr k _ _=>fr.any (AX k)
 |.mp k _=>fr.any (AX k)
 |.fn _ xs ys=>Ez fr xs||Ez fr ys
 |.agg xs=>Ez fr xs
 |.tup xs=>Ez fr xs
 |.top=>false
 |.d _=>false
 |.e0=>false
 |.p _=>false
 |.iptr _ _=>false
 |.ifc _ _ _=>false
def Ez(fr:List Aa):List AV→Bool
 |[]=>false
 |x::xs=>D0 fr x||Ez fr xs
end
def Cj(fr:List Aa):List (Nat×AV)→List (Nat×AV)
 |[]=>[]
 |(j,x)::r=>(j,match D0 fr x with|true=>.top|false=>x)::Cj fr r
def BL(ks fr fl:List Aa):List (Aa×Blk)→List (Aa×Blk)
 |[]=>[]
 |(k,b)::r=>match ks.any (AX k),fl.any (AX k)||!Ez fr b.cells with
  |false,true=>(k,b)::BL ks fr fl r
  |_,_=>BL (k::ks) fr fl r
def D6:Option Nat→AV→List (Nat×AV)→List (Nat×AV)
 |some d,x,r=>(d,x)::r
 |none,_,r=>r
def AY(os:Nat)(k:Aa):Bool:=Nat.beq k.1 1||(Nat.beq k.1 0&&Nat.ble (k.2+1) os)
def B2(os:Nat):List (Aa×Blk)→Bool
 |[]=>true
 |(k,b)::r=>AY os k&&b.live&&!(r.any fun p=>AX k p.1)&&B2 os r
mutual
theorem RV{r:Ren}{b:Aa→Nat}{fr:List Aa}(a:∀k,k∉fr→b k=r.γ k):∀(x:AV),D0 fr x=false→ren ⟨r.κ,b,r.θ,r.H0,r.no⟩ x=ren r x
 |.ref k g off n,h=>by simp only[D0]at h;simp only[ren];rw[a k (KT h)]
 |.ptr k g off,h=>by simp only[D0]at h;simp only[ren];rw[a k (KT h)]
 |.mp k g,h=>by simp only[D0]at h;simp only[ren];rw[a k (KT h)]
 |.fn f xs ys,h=>by
  simp only[D0,ML]at h
  have c:=G8 a xs h.1
  have d:=G8 a ys h.2
  cases f<;>simp only[ren,c,d]
 |.agg xs,h=>by simp only[D0]at h;simp only[ren,G8 a xs h]
 |.tup xs,h=>by simp only[D0]at h;simp only[ren,G8 a xs h]
 |.top,_=>by simp[ren]
 |.d _,_=>by simp[ren]
 |.e0,_=>by simp[ren]
 |.p _,_=>by simp[ren]
 |.iptr _ _,_=>by simp[ren]
 |.ifc _ _ _,_=>by simp[ren]
theorem G8{r:Ren}{b:Aa→Nat}{fr:List Aa}(a:∀k,k∉fr→b k=r.γ k):∀(xs:List AV),Ez fr xs=false→Ae ⟨r.κ,b,r.θ,r.H0,r.no⟩ xs=Ae r xs
 |[],_=>by simp[Ae]
 |x::xs,h=>by
  simp only[Ez,ML]at h
  simp only[Ae,RV a x h.1,G8 a xs h.2]
theorem KT{k:Aa}{fr:List Aa}(h:fr.any (AX k)=false):k∉fr:=fun hm=>by
 have:fr.any (AX k)=true:=YX.2 ⟨k,hm,Bo.2 rfl⟩
 grind
end
def Ba:Code→Array Oper
 |.region _ ops _=>ops
 |_=>#[]
def UQ:Code→Bool
 |.region _ _ false=>true
 |_=>false
def D5{α:Type}:Nat→List α→List α
 |0,l=>l
 |_+1,[]=>[]
 |n+1,_::l=>D5 n l
def EF{α:Type}:Nat→List α→List α
 |0,_=>[]
 |_+1,[]=>[]
 |n+1,x::l=>x::EF n l
theorem Oh{α:Type}:∀(n:Nat) (l:List α),D5 n l=l.drop n
 |0,l=>rfl
 |n+1,[]=>rfl
 |n+1,x::l=>Oh n l
theorem Kv{α:Type}:∀(n:Nat) (l:List α),EF n l=l.take n
 |0,l=>rfl
 |n+1,[]=>rfl
 |n+1,x::l=>by rw[EF,Kv n l];rfl
def LO(P:Program)(n:Nat)(C:Cx)(c:Code)(k:Nat)(τ:St)(Q:Exit→St→Prop):Prop:=
 ∀γ σ a w,C.G γ→RG (C.r γ) C.l C.outs [] τ σ→R C.l n C.B σ a w→wpList P (Ba c) (fun e d w'=>∃b,Is n C (Q e) b∧R C.l n C.B b d w') ((Ba c).toList.drop k) a w
def DZ(c:Code)(k:Nat):Option (Option Nat×Operand×List Operand):=
 match AR (Ba c).toList k with
 |some o=>(match o.guard,o.op with
  |none,.call cl=>(match cl.callee with|.value f=>some (o.dst,f,cl.args.toList)|_=>none)
  |_,_=>none)
 |none=>none
def C6(C:Cx):List (Aa×Blk)→Prop
 |[]=>True
 |(k,_)::r=>match Nat.beq k.1 1 with|true=>C6 C r|false=>C.no (C.κ k)∧C6 C r
def FY(H:Hp):List Aa→Prop
 |[]=>True
 |k::r=>ED (H k).cells∧FY H r
def HO(fr:List Aa)(a:List (Aa×Blk)):Bool:=fr.all fun k=>a.any fun p=>AX k p.1
def Hr(fr:List Aa)(fx:List Nat):Bool:=fr.all fun k=>!(Nat.beq k.1 0&&fx.any (Nat.beq k.2))
def EG:List (Aa×Blk)→Bool
 |[]=>true
 |(_,b)::r=>Nat.beq b.g 0&&EG r
def XE:Option Nat→(Nat→AV)→AV→Nat→AV
 |some d,s,v=>upd s d v
 |none,s,_=>s
def Hz(n:Nat):Option Nat→Bool
 |some d=>Nat.ble (d+1) n
 |none=>true
section
variable {P:Program} {T:Nat→Option TI} {n:Nat} {C:Cx} {τ:St} {Q:Exit→St→Prop}
theorem bW{c:Code}(b:UQ c=true)(h:LO P n C c 0 τ Q):LW P n C c τ Q:=by
 cases c with
 |region id ops d=>
  cases d with
  |true=>cases b
  |false=>
   obtain⟨i,rfl⟩:∃l:List Oper,ops=l.toArray:=⟨ops.toList,by simp⟩
   intro γ σ g e a w f
   have:=h γ σ a w g e f
   simp only[Ba,M3]at this
   exact wp_region_lit this
 |_=>cases b
theorem iI(d:CxOk C)(A:AJ P T){os:Nat}{fx:List Nat}(y:C.outs=os)(v:C.fx=fx){c:Code}{k:Nat}(m:Nat)(a:AT)(lf:Lf)(q:Ren→(St→Prop)→Prop)
  (E:∀r Φ,AF r os a τ (fun τ a=>Di P T C.l n r ((Ba c).toList.map (·.dst)) (EF m (D5 k (Ba c).toList)) [] a (fun τ' env f=>AF r os f (BZ env τ') (fun τ _=>Ci fx lf τ Φ)) τ)=q r Φ)
  (h:∀r,r.θ=C.θ→r.H0=C.H0→r.κ=C.κ→r.no=C.no→q r (fun τ'=>LO P n C c (k+m) τ' Q)):LO P n C c k τ Q:=by
 subst y
 subst v
 intro γ σ g w D x z
 have o:=h (C.r γ) rfl rfl rfl rfl
 rw[←E]at o
 obtain⟨R,p,N,u,i,j⟩:=Be (n:=n) d a o x
 have e:(Ba c).toList.drop k=EF m (D5 k (Ba c).toList)++(Ba c).toList.drop (k+m):=by
  rw[Kv,Oh,←List.drop_drop,QU]
 rw[e]
 refine Hb (d.ren γ) A (B:=C.B) _ (fun τ' l f U b w' J K L=>?_) _ [] p R N g w u i (j _ _ z)
 obtain⟨V,s,t⟩:=IJ (n:=n) K
 obtain⟨X,S,W,f1,f2,f3⟩:=Be (n:=n) d f J s
 obtain⟨M,Y,O,F,G,H,I⟩:=Eu (n:=n) d f1 D f2
 exact G M O b w' F H (I _ _ (f3 _ _ (t _ _ L)))
theorem gD(b:CxOk C)(A:AJ P T){os:Nat}{fx:List Nat}(y:C.outs=os)(v:C.fx=fx){c:Code}{k:Nat}(a:AT)(lf:Lf)(q:Ren→(Exit→St→Prop)→Prop)
  (E:∀r Φ,AF r os a τ (fun τ a=>Di P T C.l n r ((Ba c).toList.map (·.dst)) (D5 k (Ba c).toList) [] a (fun τ' env d=>AF r os d (BZ env τ') (fun τ _=>Ci fx lf τ (Φ .normal))) τ)=q r Φ)
  (h:∀r,r.θ=C.θ→r.H0=C.H0→r.κ=C.κ→r.no=C.no→q r Q):LO P n C c k τ Q:=by
 subst y
 subst v
 intro γ σ f w D x z
 have m:=h (C.r γ) rfl rfl rfl rfl
 rw[←E]at m
 obtain⟨O,p,N,u,g,i⟩:=Be (n:=n) b a m x
 have e:(Ba c).toList.drop k=D5 k (Ba c).toList++[]:=by rw[Oh,J1]
 rw[e]
 refine Hb (b.ren γ) A (B:=C.B) _ (fun τ' l d U j w' J K L=>?_) _ [] p O N f w u g (i _ _ z)
 obtain⟨V,s,t⟩:=IJ (n:=n) K
 obtain⟨X,S,W,f1,f2,f3⟩:=Be (n:=n) b d J s
 obtain⟨M,R,o,F,G,H,I⟩:=Eu (n:=n) b f1 D f2
 unfold wpList
 exact⟨o,⟨M,R,o,F,G,H,Wk.refl _⟩,I _ _ (f3 _ _ (t _ _ L))⟩
theorem Kw:∀{hs:List (Aa×Blk)},EG hs=true→∀k,(Ak hs k).g=0
 |[],_,k=>rfl
 |(k',b)::r,h,k=>by
  simp only[EG,Yc]at h
  simp only[Ak]
  split
  ·exact Ya h.1
  ·exact Kw h.2 k
theorem Td{k:Aa}{ks:List Aa}:ks.any (AX k)=true↔k∈ks:=by
 rw[YX]
 exact⟨fun⟨q,a,b⟩=>by rw[Bo.1 b];exact a,fun h=>⟨k,h,Bo.2 rfl⟩⟩
theorem fE(a b:List (Aa×Blk))(k:Aa):Ak (a++b) k=if k∈a.map (·.1)then Ak a k else Ak b k:=by
 induction a with
 |nil=>simp
 |cons p a f=>
  obtain⟨q,d⟩:=p
  simp only[JZ,Ak,Y3,YJ]
  cases c:AX q k with
  |true=>rw[Yj (.inl (Bo.1 c).symm)]
  |false=>
   have:k≠q:=fun e=>by rw[Bo.2 e.symm]at c;cases c
   grind
theorem IH{fr fl:List Aa}:∀(hs:List (Aa×Blk)) (ks:List Aa) (k:Aa),(k∈ks→Ak (BL ks fr fl hs) k=CT)∧(k∉ks→(Ak (BL ks fr fl hs) k=Ak hs k∧(k∈fl∨Ez fr (Ak hs k).cells=false))∨Ak (BL ks fr fl hs) k=CT)
 |[],ks,k=>⟨fun _=>rfl,fun _=>.inr rfl⟩
 |(q,b)::r,ks,k=>by
  simp only[BL]
  split
  ·rename_i d a
   have f:q∉ks:=fun hm=>by rw[Td.2 hm]at d;cases d
   simp only[Ak]
   cases c:AX q k with
   |true=>
    have c:=Bo.1 c
    subst c
    refine⟨fun h=>absurd h f,fun _=>.inl ⟨rfl,?_⟩⟩
    simp only[YD,Y2]at a
    rcases a with a|a
    ·exact .inl (Td.1 a)
    grind
   |false=>exact IH r ks k
  ·obtain⟨d,a⟩:=IH (fr:=fr) (fl:=fl) r (q::ks) k
   refine⟨fun h=>d (Yy _ h),fun h=>?_⟩
   by_cases c:k=q
   ·grind
   ·rcases a (fun hm=>(YJ.1 hm).elim c h)with⟨i,j⟩|e
    ·have:AX q k=false:=by
      cases g:AX q k with
      |true=>exact absurd (Bo.1 g).symm c
      |false=>rfl
     simp only[Ak,this]
     grind
    grind
theorem Kc{r:Ren}:∀(a:List (Aa×Blk)) (H:Hp) (q:Aa),(∀p∈a,r.κ p.1≠q)→BN r a H q=H q
 |[],H,q,h=>rfl
 |(k,b)::c,H,q,h=>by
  simp only[BN]
  rw[Kc c _ q (fun p d=>h p (Yy _ d)),Al _ _ (fun e=>h (k,b) (YF ..) e.symm)]
theorem SC{r:Ren}{os:Nat}(f:∀q k:Aa,AY os q=true→AY os k=true→q≠k→r.κ q≠r.κ k):∀(d:List (Aa×Blk)) (H:Hp),B2 os d=true→∀k b,(k,b)∈d→BN r d H (r.κ k)=Ao r k b∧Ak d k=b∧AY os k=true∧b.live=true
 |[],H,_,k,b,hm=>by cases hm
 |(q,c)::rest,H,h,k,b,hm=>by
  simp only[B2,Yc,Y2]at h
  obtain⟨⟨⟨j,v⟩,m⟩,n⟩:=h
  have g:∀p∈rest,p.1≠q:=fun p a e=>by
   have:(rest.any fun p=>AX q p.1)=true:=YX.2 ⟨p,a,Bo.2 e.symm⟩
   rw[this]at m;cases m
  have i:∀(l:List (Aa×Blk)),B2 os l=true→∀p∈l,AY os p.1=true:=by
   intro l
   induction l with
   |nil=>intro _ p a;cases a
   |cons p l x=>
    obtain⟨y,z⟩:=p
    intro hl p a
    simp only[B2,Yc]at hl
    rcases YJ.1 a with rfl|a
    ·exact hl.1.1.1
    ·exact x hl.2 p a
  simp only[BN]
  rcases YJ.1 hm with e|hm
  ·cases e
   refine⟨?_,by simp only[Ak,Bo.2 rfl],j,v⟩
   rw[Kc rest _ _ (fun p a=>f _ _ (i rest n p a) j (g p a)),At]
  ·obtain⟨o,s,t,u⟩:=SC f rest (updH H (r.κ q) (Ao r q c)) n k b hm
   refine⟨o,?_,t,u⟩
   have:AX q k=false:=by
    cases w:AX q k with
    |true=>exact absurd (Bo.1 w).symm (g _ hm)
    |false=>rfl
   simp only[Ak,this]
   exact s
theorem OK:∀{d:List (Aa×Blk)},C6 C d→∀p∈d,p.1.1≠1→C.no (C.κ p.1)
 |(k,b)::r,h,p,c,a=>by
  simp only[C6]at h
  split at h
  ·rename_i e
   rcases YJ.1 c with rfl|c
   ·exact absurd (Ya e) a
   ·exact OK h p c a
  ·rcases YJ.1 c with rfl|c
   ·exact h.1
   ·exact OK h.2 p c a
theorem OZ{H:Hp}:∀{ks:List Aa},FY H ks→∀k∈ks,ED (H k).cells
 |q::r,h,k,a=>by
  rcases YJ.1 a with rfl|a
  ·exact h.1
  ·exact OZ h.2 k a
theorem DB{os:Nat}{k:Aa}(h:AY os k=true):k.1=1∨(k.1=0∧k.2<os):=by
 simp only[AY,YD,Yc]at h
 rcases h with h|⟨a,b⟩
 ·exact .inl (Ya h)
 ·exact .inr ⟨Ya a,Yd b⟩
theorem SR{fr:List Aa}:∀(ss:List (Nat×AV)) (j:Nat),As (Cj fr ss) j=.top∨(As (Cj fr ss) j=As ss j∧D0 fr (As ss j)=false)
 |[],j=>.inl rfl
 |(i,x)::r,j=>by
  simp only[Cj,As]
  split
  ·grind
  ·exact SR r j
theorem dh(hC:CxOk C){os:Nat}{fx:List Nat}(hO:C.outs=os)(hF:C.fx=fx){c:Code}{k:Nat}{ss:List (Nat×AV)}{hs:List (Aa×Blk)}(m:Option Nat)(fo:Operand)(aZ:List Operand)(s:DZ c k=some (m,fo,aZ))
  (f:FuncId) (first v xs:List AV) (hf:ev (As ss) fo=.fn (.func f) first v) (hxs:first++aZ.map (ev (As ss))++v=xs) (ks:List Aa) (K:List (Aa×Blk)) (hhb:(ks.map fun k=>(k,Ak hs k))=K)
  {ι:Type} (I:ι→Prop) (xF:ι→AV) (t:ι→List (Aa×Blk)) (fr fl:List Aa) (N:(Hr fr fx&&EG hs&&Hz n m&&ks.all (AY os))=true) (u:∀i,(B2 os (t i)&&HO fr (t i))=true) (J:∀i,C6 C (t i)) (hfl:FY (Ak hs) fl)
  (U:∀r:Ren,r.θ=C.θ→r.H0=C.H0→r.κ=C.κ→r.no=C.no→∀W,(∀p∈K,(W (r.κ p.1)).g=r.γ p.1+p.2.g∧(p.2.live=true→W (r.κ p.1)=Ao r p.1 p.2))→(∀k:Aa,k.1≤C.l→¬r.no k→W k=r.H0 k)→
   Zbb P f (C.l+1) (Ae r xs) W (fun y X=>∃i,I i∧∃g:Aa→Nat,(∀k,k∉fr→g k=r.γ k)∧y=ren ⟨r.κ,g,r.θ,r.H0,r.no⟩ (xF i)∧X=BN ⟨r.κ,g,r.θ,r.H0,r.no⟩ (t i) W))
  (h:∀i,I i→LO P n C c (k+1) (Ab (D6 m (xF i) (Cj fr ss)) (t i++BL ((t i).map (·.1)) fr fl hs)) Q):LO P n C c k (Ab ss hs) Q:=by
 subst hO
 subst hF
 simp only[Yc]at N
 obtain⟨⟨⟨k3,k4⟩,k5⟩,k6⟩:=N
 intro γ σ act w hg A hR
 have hr:=hC.ren γ
 have hs':∀j,σ.s j=ren (C.r γ) (As ss j):=fun j=>(A.s j).1 AH
 have B:∀y:Operand,ev σ.s y=ren (C.r γ) (ev (As ss) y):=fun y=>Gt (c:=[]) A AH (by cases y<;>rfl)
 unfold DZ at s
 split at s
 case h_2=>cases s
 rename_i o ho
 split at s
 case h_2=>cases s
 rename_i cl hgd hopc
 split at s
 case h_2=>cases s
 rename_i fo' hcal
 simp only[Yh,DU]at s
 obtain⟨hd,rfl,rfl⟩:=s
 rw[Bi]at ho
 have hlt:k<(Ba c).toList.length:=by
  grind
 have V:(Ba c).toList.drop k=o::(Ba c).toList.drop (k+1):=by
  rw[YN hlt]
  grind
 rw[V]
 have M:∀q k:Aa,AY C.outs q=true→AY C.outs k=true→q≠k→(C.r γ).κ q≠(C.r γ).κ k:=fun q k h1 h2 h3=>hr.ne (DB h1) (DB h2) h3
 have hA:=U (C.r γ) rfl rfl rfl rfl σ.H (fun p F=>by
  rw[←hhb]at F
  obtain⟨q,l,rfl⟩:=YO.1 F
  have hq':=DB (Yo.1 k6 q l)
  refine⟨?_,fun hl=>A.h q hl⟩
  obtain⟨q1,q2⟩:=q
  simp only at hq'
  rcases hq' with rfl|⟨rfl,h2⟩
  ·have:=A.g q2
   rw[←hr.own]at this
   exact this
  ·exact A.go q2 h2) A.o
 have T:Ae (C.r γ) xs=Ae (C.r γ) first++cl.args.toList.map (ev σ.s)++Ae (C.r γ) v:=by
  rw[←hxs,DW,DW]
  congr 2
  rw[C9,Ep]
  exact Y1 fun y _=>(B y).symm
 have hfe:ev σ.s fo'=.fn (.func f) (Ae (C.r γ) first) (Ae (C.r γ) v):=by rw[B,hf];simp[ren]
 have hrop:AW P C.l n o (fun σ'=>∃i,I i∧∃g:Aa→Nat,(∀q,q∉fr→g q=γ q)∧σ'=⟨XE m σ.s (ren (C.r g) (xF i)),BN (C.r g) (t i) σ.H⟩) σ:=by
  unfold AW
  rw[hopc]
  simp only[hcal,hfe]
  rw[T]at hA
  refine hA.mono fun y X ⟨i,hi,g,O,e2,e3⟩=>?_
  unfold Jn Bu
  rw[hd]
  cases m with
  |none=>exact⟨i,hi,g,O,by rw[e3];rfl⟩
  |some d=>exact⟨Yd k5,i,hi,g,O,by rw[e2,e3];rfl⟩
 refine Nx (by simp[Region.wanted,hgd]) (Gk hrop) hR fun σ' Z w' hK S=>?_
 obtain⟨i,hi,g,O,rfl⟩:=hK
 have h:=h i hi
 have J:=J i
 have u:=u i
 generalize t i=a at h J u S
 generalize xF i=x at h S
 simp only[Yc]at u
 obtain⟨k1,k2⟩:=u
 have hsub:∀q,q∈fr→∃b,(q,b)∈a:=fun q l=>by
  obtain⟨p,F,hk⟩:=YX.1 (Yo.1 k2 q l)
  rw[Bo.1 hk];exact⟨p.2,F⟩
 let τ2:St:=Ab (D6 m x (Cj fr ss)) (a++BL (a.map (·.1)) fr fl hs)
 have E:∀q,Ak (a++BL (a.map (·.1)) fr fl hs) q=if q∈a.map (·.1)then Ak a q else Ak (BL (a.map (·.1)) fr fl hs) q:=fun q=>fE _ _ _
 have hin:∀q,q∈a.map (·.1)→∃b,(q,b)∈a:=fun q l=>by obtain⟨p,F,rfl⟩:=YO.1 l;exact⟨p.2,F⟩
 have G:∀q b,(q,b)∈a→BN (C.r g) a σ.H ((C.r g).κ q)=Ao (C.r g) q b∧Ak a q=b∧AY C.outs q=true∧b.live=true:=SC (r:=C.r g) M a σ.H k1
 have D:∀q,q∉a.map (·.1)→AY C.outs q=true→BN (C.r g) a σ.H ((C.r g).κ q)=σ.H ((C.r g).κ q)∧g q=γ q:=fun q l z=>by
  refine⟨Kc _ _ _ fun p F=>M _ _ (G p.1 p.2 F).2.2.1 z fun e=>l (YO.2 ⟨p,F,e⟩),O q fun hf=>?_⟩
  grind
 have L:∀q,AY C.outs q=true→(σ.H (C.κ q)).g=γ q→(BN (C.r g) a σ.H (C.κ q)).g=g q+(Ak (a++BL (a.map (·.1)) fr fl hs) q).g:=fun q z hq0=>by
  rw[E]
  split
  ·rename_i hm
   obtain⟨b,K⟩:=hin q hm
   obtain⟨a1,Y,_⟩:=G q b K
   rw[show C.κ q=(C.r g).κ q from rfl,a1,Y]
   rfl
  ·rename_i hm
   obtain⟨a1,Y⟩:=D q hm z
   rw[show C.κ q=(C.r g).κ q from rfl,a1,Y]
   have:(Ak (BL (a.map (·.1)) fr fl hs) q).g=0:=by
    rcases(IH (fr:=fr) (fl:=fl) hs (a.map (·.1)) q).2 hm with⟨e,_⟩|e
    ·rw[e];exact Kw k4 q
    ·rw[e];rfl
   rw[this]
   exact hq0
 have hG2:RG (C.r g) C.l C.outs [] τ2 ⟨fun j=>ren (C.r g) (τ2.s j),BN (C.r g) a σ.H⟩:=by
  refine⟨fun j=>⟨fun _=>rfl,fun hn=>absurd AH hn⟩,fun q l=>?_,fun d=>?_,fun i hi=>?_,fun q l=>?_,fun q l hn=>?_⟩
  ·show BN (C.r g) a σ.H ((C.r g).κ q)=Ao (C.r g) q (Ak (a++BL (a.map (·.1)) fr fl hs) q)
   replace l:(Ak (a++BL (a.map (·.1)) fr fl hs) q).live=true:=l
   rw[E]at l⊢
   split at l
   ·grind
   ·rename_i hm
    rw[Yt hm]
    rcases(IH (fr:=fr) (fl:=fl) hs (a.map (·.1)) q).2 hm with⟨e,e'⟩|e
    ·rw[e]at l⊢
     have z:=A.k q l
     have u:AY C.outs q=true:=by
      obtain⟨q1,q2⟩:=q
      simp only at z
      simp only[AY,YD,Yc]
      rcases z with rfl|⟨rfl,h2⟩
      ·exact .inl rfl
      ·exact .inr ⟨rfl,QV h2⟩
     obtain⟨a1,Y⟩:=D q hm u
     rw[a1]
     have K:=A.h q l
     have H:Ae (C.r g) (Ak hs q).cells=Ae (C.r γ) (Ak hs q).cells:=by
      rcases e' with e'|e'
      ·rw[Fk (OZ hfl q e'),Fk (OZ hfl q e')]
      ·exact G8 (r:=C.r γ) O _ e'
     show σ.H ((C.r γ).κ q)=_
     rw[K]
     simp only[Ao]
     rw[H,show(C.r g).γ q=g q from rfl,Y]
     rfl
    ·rw[e]at l;cases l
  ·have:=L (1,d) rfl (by
    have:=A.g d
    rw[show((Ab ss hs).H (1,d)).g=0 from Kw k4 _]at this
    rw[hC.own];exact this)
   rw[hC.own]at this
   exact this
  ·exact L (0,i) (by simp only[AY,YD,Yc];exact .inr ⟨rfl,QV hi⟩) (by
    have:=A.go i hi
    rw[show((Ab ss hs).H (0,i)).g=0 from Kw k4 _]at this
    exact this)
  ·replace l:(Ak (a++BL (a.map (·.1)) fr fl hs) q).live=true:=l
   rw[E]at l
   split at l
   ·rename_i hm
    obtain⟨b,K⟩:=hin q hm
    exact DB (G q b K).2.2.1
   ·rename_i hm
    rcases(IH (fr:=fr) (fl:=fl) hs (a.map (·.1)) q).2 hm with⟨e,e'⟩|e
    ·rw[e]at l;exact A.k q l
    ·rw[e]at l;cases l
  ·show BN (C.r g) a σ.H q=C.H0 q
   rw[Kc _ _ _ fun p F e=>?_]
   ·exact A.o q l hn
   ·by_cases h1:p.1.1=1
    ·obtain⟨⟨p1,p2⟩,p3⟩:=p
     simp only at h1
     subst h1
     rw[show(C.r g).κ (1,p2)=(C.l+1,p2)from hC.own p2]at e
     grind
    ·exact hn (by rw[←e];exact OK J p F h1)
 refine h g _ Z w' (hC.G γ g (fun i hi=>O _ fun hm=>?_) hg) hG2 (R.weaken S fun j=>?_)
 ·have:=Yo.1 k3 _ hm
  simp only[Y2,MR]at this
  rcases this with h|h
  ·cases h
  ·have:(C.fx.any (Nat.beq i))=true:=YX.2 ⟨i,hi,by simp⟩
   grind
 ·have old:ren (C.r g) (As (Cj fr ss) j)=σ.s j∨ren (C.r g) (As (Cj fr ss) j)=.top:=by
   rcases SR (fr:=fr) ss j with e|⟨e,e'⟩
   ·right;rw[e];simp[ren]
   ·left
    rw[e,hs' j]
    exact RV (r:=C.r γ) O _ e'
  show ren (C.r g) (As (D6 m x (Cj fr ss)) j)=_∨ren (C.r g) (As (D6 m x (Cj fr ss)) j)=.top
  cases m with
  |none=>exact old
  |some d=>
   simp only[D6,As,XE,upd]
   cases hj:Nat.beq d j with
   |true=>
    have:=Ya hj
    grind
   |false=>
    have:j≠d:=fun e=>by rw[e]at hj;simp at hj
    grind
theorem eX(E:CxOk C){os:Nat}{fx:List Nat}(G:C.outs=os)(F:C.fx=fx){c:Code}{k:Nat}{ss:List (Nat×AV)}{hs:List (Aa×Blk)}(g:Option Nat)(m:Operand)(l:List Operand)(s:DZ c k=some (g,m,l))
  (f:FuncId) (first e xs:List AV) (H:ev (As ss) m=.fn (.func f) first e) (u:first++l.map (ev (As ss))++e=xs) (ks:List Aa) (o:List (Aa×Blk)) (q:(ks.map fun k=>(k,Ak hs k))=o)
  (x:AV) (d:List (Aa×Blk)) (fr fl:List Aa) (j:(B2 os d&&HO fr d&&Hr fr fx&&EG hs&&Hz n g&&ks.all (AY os))=true) (t:C6 C d) (p:FY (Ak hs) fl)
  (i:∀r:Ren,r.θ=C.θ→r.H0=C.H0→r.κ=C.κ→r.no=C.no→EB P C.l r f xs o x d fr)
  (h:LO P n C c (k+1) (Ab (D6 g x (Cj fr ss)) (d++BL (d.map (·.1)) fr fl hs)) Q):LO P n C c k (Ab ss hs) Q:=by
 simp only[Yc]at j
 obtain⟨⟨⟨⟨⟨J,K⟩,L⟩,M⟩,N⟩,O⟩:=j
 exact dh E G F g m l s f first e xs H u ks o q (ι:=Unit) (fun _=>True) (fun _=>x) (fun _=>d) fr fl (by simp only[Yc];exact⟨⟨⟨L,M⟩,N⟩,O⟩) (fun _=>by simp only[Yc];exact⟨J,K⟩) (fun _=>t) p
  (fun r z A B D v a b=>(i r z A B D v a b).mono fun y w I=>⟨(),trivial,I⟩) fun _ _=>h
end
def Cd(l:Nat)(ks:List Aa):Aa→Aa
 |(0,i)=>match AR ks i with|some k=>k|none=>(0,0)
 |(_+1,d)=>(l+1,d)
def Ee(a:List Nat):Aa→Nat
 |(0,i)=>match AR a i with|some g=>g|none=>0
 |(_+1,_)=>0
def Bn(l:Nat)(ks:List Aa)(a:List Nat)(θ:Nat→AV)(H:Hp):Ren:=⟨Cd l ks,Ee a,θ,H,fun k=>k∈ks⟩
def E0(l:Nat)(ks:List Aa)(a:List Nat)(r:Ren):Prop:=r.κ=Cd l ks∧∀i,i<ks.length→r.γ (0,i)=Ee a (0,i)
def BG(r:Ren):Nat→List Blk→List Blk
 |_,[]=>[]
 |i,b::a=>Ao r (0,i) b::BG r (i+1) a
def BY(H:Hp):List Aa→List Blk→Hp
 |k::ks,b::a=>BY (updH H k b) ks a
 |_,_=>H
theorem NU:∀(ks:List Aa) (a:List Blk) (H:Hp) (q:Aa),q∉ks→BY H ks a q=H q
 |[],a,H,q,h=>by cases a<;>rfl
 |k::ks,[],H,q,h=>rfl
 |k::ks,b::a,H,q,h=>by
  simp only[BY]
  rw[NU ks a _ q (fun hm=>h (Yy _ hm)),Al _ _ (fun e=>h (by rw[e];exact YF ..))]
theorem TA:∀(ks:List Aa) (a:List Blk) (H:Hp),ks.Nodup→∀(j:Nat) (k:Aa) (b:Blk),ks[j]?=some k→a[j]?=some b→BY H ks a k=b
 |[],a,H,_,j,k,b,h,_=>by simp at h
 |q::ks,[],H,_,_,_,_,_,h=>by simp at h
 |q::ks,c::a,H,e,j,k,b,d,hb=>by
  simp only[BY]
  rw[List.nodup_cons]at e
  cases j with
  |zero=>
   simp only[YV,Yh]at d hb
   subst d;subst hb
   rw[NU ks a _ _ e.1,At]
  |succ j=>
   simp only[G4]at d hb
   exact TA ks a _ e.2 j k b d hb
theorem Ta{r:Ren}:∀(a:List Blk) (i j:Nat),(BG r i a)[j]?=(a[j]?).map (Ao r (0,i+j))
 |[],i,j=>by simp[BG]
 |b::a,i,0=>by simp[BG]
 |b::a,i,j+1=>by
  simp only[BG,G4,Ta a (i+1) j,show i+1+j=i+(j+1)from by omega]
theorem RY{P:Program}{T:Nat→Option TI}{n:Nat}{f:FuncId}{fn:Func}(J:List ResultVar)(c:Code){l:Nat}{xs:List AV}{H:Hp}{g:AV→Hp→Prop}(ks:List Aa)(t:List Nat)(fx:List Nat)(θ:Nat→AV)(ys:List AV)(hs:List (Aa×Blk))(LPost:AV→List Blk→Prop)
  (V:P.funcs[f]?=some fn) (hb:fn.body=some c) (s:(fn.name== "runtime.NumGoroutine")=false) (Z:fn.ntmps=n) (hr:fn.results.toList=J) (hx:xs.length≤n) (S:AJ P T)
  (D:∀k∈ks,k.1≤l) (u:ks.Nodup) (W:∀d,Ak hs (1,d)=CT) (F:∀k,(Ak hs k).live=true→k.1=0∧k.2<ks.length)
  (R:∀i k,ks[i]?=some k→(H k).g=Ee t (0,i)+(Ak hs (0,i)).g∧((Ak hs (0,i)).live=true→H k=Ao (Bn l ks t θ H) (0,i) (Ak hs (0,i))))
  (I:Ae (Bn l ks t θ H) ys=xs)
  (h:∀C,CxOk C→C.outs=ks.length→C.fx=fx→C.l=l→C.H0=H→C.θ=θ→C.κ=Cd l ks→C.no=(fun k=>k∈ks)→LW P n C c (Ab (B0 0 ys) hs) (FQ T J ks.length LPost))
  (v:∀y b,LPost y b→b.length=ks.length∧(∀x∈b,x.live=true)∧∀r:Ren,r.κ=Cd l ks→r.θ=θ→r.H0=H→r.no=(fun k=>k∈ks)→(∀i∈fx,r.γ (0,i)=Ee t (0,i))→g (ren r y) (BY H ks (BG r 0 b))):Zbb P f l xs H g:=by
 let C:Base→Cx:=fun B=>⟨l,B,Cd l ks,θ,H,ks.length,fun k=>k∈ks,fx,fun γ=>∀i∈fx,γ (0,i)=Ee t (0,i)⟩
 have a:∀i,i<ks.length→ks[i]?=some (Cd l ks (0,i)):=fun i hi=>by
  show _=some (match AR ks i with|some k=>k|none=>(0,0))
  rw[Bi,Yb hi]
 have E:∀(i:Nat) (k:Aa),ks[i]?=some k→i<ks.length:=fun i k hi=>by
  grind
 have K:∀B,CxOk (C B):=fun B=>by
  refine⟨fun _=>rfl,fun i hi=>D _ (Yi (a i hi)),fun i j hi Y e=>?_,fun k w=>?_,fun γ γ' he A i hi=>by rw[he i hi];exact A i hi⟩
  ·have m:=a i hi
   have o:=a j Y
   rw[show Cd l ks (0,i)=Cd l ks (0,j)from e]at m
   have Q:ks[i]?=ks[j]?:=m.trans o.symm
   exact(List.getElem?_inj hi u).1 Q
  ·obtain⟨i,hi⟩:=G5.1 (show k∈ks from w)
   grind
 refine SX J C (γ:=Ee t) (LPost:=LPost) (ys:=ys) (hs:=hs) V hb s Z hr hx S K (fun B=>⟨rfl,rfl,rfl,fun i _=>rfl⟩) (fun B=>I) (fun _=>rfl) W (fun B k w=>?_) (fun B i hi=>?_) (fun B γ y b N A hy L _=>?_) (fun B=>h _ (K B) rfl rfl rfl rfl rfl rfl rfl)
 ·obtain⟨m,o⟩:=F k w
  obtain⟨k1,M⟩:=k
  simp only at m o
  subst m
  exact⟨rfl,o,(R M _ (a M o)).2 w⟩
 ·grind
 ·obtain⟨U,z,v⟩:=v y b hy
  have v:=v ((C B).r γ) rfl rfl rfl rfl fun i hi=>A i hi
  have O:N=BY H ks (BG ((C B).r γ) 0 b):=by
   funext q
   by_cases G:q∈ks
   ·obtain⟨i,hi⟩:=G5.1 G
    have X:=E i q hi
    have p:b[i]?=some b[i]:=Yb (by omega)
    have m:=L.live i _ p (z _ (Yi p))
    have o:Cd l ks (0,i)=q:=by
     grind
    rw[show(C B).κ (0,i)=q from o]at m
    rw[m,TA ks _ H u i q (Ao ((C B).r γ) (0,i) b[i]) hi]
    rw[Ta,p,YL]
    rfl
   ·rw[NU ks _ H q G]
    exact L.o q G
  rw[O];exact v
theorem aR{P:Program}{T:Nat→Option TI}{n:Nat}{f:FuncId}{fn:Func}(w:List ResultVar)(c:Code){l:Nat}{xs:List AV}{H:Hp}{a:AV→Hp→Prop}(ks:List Aa)(e:List Nat)(fx:List Nat)(θ:Nat→AV)(ys:List AV)(hs:List (Aa×Blk))(LPost:AV→List Blk→Prop)
  (G:P.funcs[f]?=some fn) (hb:fn.body=some c) (g:(fn.name== "runtime.NumGoroutine")=false) (J:fn.ntmps=n) (K:fn.results.toList=w) (hx:xs.length≤n) (E:AJ P T)
  (q:∀k∈ks,k.1≤l) (t:ks.Nodup) (p:∀i,i<ks.length→i∈fx) (I:∀d,Ak hs (1,d)=CT) (s:∀k,(Ak hs k).live=true→k.1=0∧k.2<ks.length)
  (D:∀i k,ks[i]?=some k→(H k).g=Ee e (0,i)+(Ak hs (0,i)).g∧((Ak hs (0,i)).live=true→H k=Ao (Bn l ks e θ H) (0,i) (Ak hs (0,i))))
  (v:Ae (Bn l ks e θ H) ys=xs)
  (h:∀C,CxOk C→C.outs=ks.length→C.fx=fx→C.l=l→C.H0=H→C.θ=θ→C.κ=Cd l ks→C.no=(fun k=>k∈ks)→LW P n C c (Ab (B0 0 ys) hs) (FQ T w ks.length LPost))
  (u:∀y b,LPost y b→b.length=ks.length∧(∀x∈b,x.live=true)∧∃Y' bs',(∀r,E0 l ks e r→ren r y=Y')∧(∀r,E0 l ks e r→BG r 0 b=bs')∧a Y' (BY H ks bs')):Zbb P f l xs H a:=by
 refine RY w c ks e fx θ ys hs LPost G hb g J K hx E q t I s D v h fun y b hy=>?_
 obtain⟨m,o,Y',bs',F,B,u⟩:=u y b hy
 refine⟨m,o,fun r z _ _ _ A=>?_⟩
 have j:E0 l ks e r:=⟨z,fun i hi=>A i (p i hi)⟩
 rw[F _ j,B _ j];exact u
theorem bN{P:Program}{T:Nat→Option TI}{n:Nat}{f:FuncId}{fn:Func}(v:List ResultVar)(c:Code){l:Nat}{xs:List AV}{H:Hp}{a:AV→Hp→Prop}(ks:List Aa)(g:List Nat)(fx:List Nat)(θ:Nat→AV)(ys:List AV)(hs:List (Aa×Blk))(Y:AV)(j:List Blk){Y':AV}{bs':List Blk}
  (E:P.funcs[f]?=some fn) (hb:fn.body=some c) (e:(fn.name== "runtime.NumGoroutine")=false) (G:fn.ntmps=n) (J:fn.results.toList=v) (hx:xs.length≤n) (B:AJ P T)
  (q:∀k∈ks,k.1≤l) (t:ks.Nodup) (p:∀i,i<ks.length→i∈fx) (F:∀d,Ak hs (1,d)=CT) (s:∀k,(Ak hs k).live=true→k.1=0∧k.2<ks.length)
  (A:∀i k,ks[i]?=some k→(H k).g=Ee g (0,i)+(Ak hs (0,i)).g∧((Ak hs (0,i)).live=true→H k=Ao (Bn l ks g θ H) (0,i) (Ak hs (0,i))))
  (u:Ae (Bn l ks g θ H) ys=xs) (m:j.length=ks.length) (o:∀b∈j,b.live=true) (D:∀r,E0 l ks g r→ren r Y=Y') (z:∀r,E0 l ks g r→BG r 0 j=bs')
  (h:∀C,CxOk C→C.outs=ks.length→C.fx=fx→C.l=l→C.H0=H→C.θ=θ→C.κ=Cd l ks→C.no=(fun k=>k∈ks)→LW P n C c (Ab (B0 0 ys) hs) (FQ T v ks.length (fun y b=>y=Y∧b=j)))
  (I:a Y' (BY H ks bs')):Zbb P f l xs H a:=by
 exact aR v c ks g fx θ ys hs (fun y b=>y=Y∧b=j) E hb e G J hx B q t p F s A u h fun y b ⟨w,x⟩=>by subst w;subst x;exact⟨m,o,Y',bs',D,z,I⟩
section
variable {P:Program} {l:Nat} {r:Ren} {f:FuncId} {xs xs':List AV} {hb hb2:List (Aa×Blk)} {x x':AV}
theorem dv(e:Ae r xs=xs')(g:ren r x=x')(h:∀a,(∀p∈hb,(a (r.κ p.1)).g=r.γ p.1+p.2.g∧(p.2.live=true→a (r.κ p.1)=Ao r p.1 p.2))→(∀k:Aa,k.1≤l→¬r.no k→a k=r.H0 k)→Zbb P f (l+1) xs' a (fun y b=>y=x'∧b=BN r hb2 a)):
  EB P l r f xs hb x hb2 []:=fun a hb i=>by
 rw[e]
 exact(h a hb i).mono fun y b ⟨c,d⟩=>⟨r.γ,fun _ _=>rfl,by rw[c,←g],d⟩
end
theorem Es{α:Type}{e:α→List D}{r:Ren}{k:Aa}(xs:List α):Eb r k (Ad e xs):=by
 unfold Eb
 rw[Fk (CK e xs)]
 refine Yo.2 fun x hx=>?_
 obtain⟨d,_,rfl⟩:=YO.1 hx
 rfl
theorem fu{r:Ren}{k:Aa}{vs:List AV}(h:(Ae r vs).all (AV.low (r.κ k).1)=true):Eb r k vs:=h
theorem RT{α:Type}(e:α→List D)(xs:List α):DF (Ad e xs):=fun x hx=>by
 obtain⟨d,_,rfl⟩:=YO.1 hx;rfl
theorem eB{α:Type}{e:α→List D}{xs:List α}{off cn sz:Nat}{z:List AV}(hl:∀x,(e x).length=sz)(h:off+cn≤xs.length):
  PC (Ad e xs) off cn sz z ((Ad e xs).take (off*sz)++(List.replicate cn z).flatten++(Ad e xs).drop ((off+cn)*sz)):=by
 refine⟨?_,rfl⟩
 rw[Hf hl]
 exact YP _ h
theorem eS{α:Type}{e:α→List D}{xs:List α}{off sz:Nat}{A B:List AV}(hl:∀x,(e x).length=sz)(h:off≤xs.length):∃m,((Ad e xs).take (off*sz)++A++B).take m=Ad e (xs.take off):=by
 refine⟨off*sz,?_⟩
 have a:((Ad e xs).take (off*sz)).length=off*sz:=by
  rw[Y9,Hf hl]
  exact G2 (YP _ h)
 rw[Ej,List.take_append_of_le_length (by omega),QS (by omega),NP hl]
def EJ(n:Nat):List (Aa×Blk)→Bool
 |[]=>true
 |(k,_)::r=>Nat.beq k.1 0&&Nat.ble (k.2+1) n&&EJ n r
theorem Ov{n:Nat}:∀{hs:List (Aa×Blk)},EJ n hs=true→∀k,(Ak hs k).live=true→k.1=0∧k.2<n
 |[],_,k,h=>by simp[Ak,CT]at h
 |(q,b)::r,hi,k,h=>by
  simp only[EJ,Yc]at hi
  simp only[Ak]at h
  split at h
  ·rename_i a
   have a:=Bo.1 a
   subst a
   exact⟨Ya hi.1.1,Yd hi.1.2⟩
  ·exact Ov hi.2 k h
theorem Ob{n:Nat}:∀{hs:List (Aa×Blk)},EJ n hs=true→∀d,Ak hs (1,d)=CT
 |[],_,d=>rfl
 |(q,b)::r,hi,d=>by
  simp only[EJ,Yc]at hi
  simp only[Ak]
  split
  ·rename_i a
   have a:=Bo.1 a
   subst a
   have:=Ya hi.1.1
   grind
  ·exact Ob hi.2 d
def F9(H:Hp)(r:Ren)(hs:List (Aa×Blk)):Nat→List Aa→Prop
 |_,[]=>True
 |i,k::ks=>((H k).g=r.γ (0,i)+(Ak hs (0,i)).g∧((Ak hs (0,i)).live=true→H k=Ao r (0,i) (Ak hs (0,i))))∧F9 H r hs (i+1) ks
theorem OL{H:Hp}{r:Ren}{hs:List (Aa×Blk)}:∀{ks:List Aa} {i:Nat},F9 H r hs i ks→∀j k,ks[j]?=some k→(H k).g=r.γ (0,i+j)+(Ak hs (0,i+j)).g∧((Ak hs (0,i+j)).live=true→H k=Ao r (0,i+j) (Ak hs (0,i+j)))
 |[],i,_,j,k,h=>by simp at h
 |q::ks,i,h,0,k,a=>by
  simp only[YV,Yh]at a
  subst a
  exact h.1
 |q::ks,i,h,j+1,k,a=>by
  have:=OL h.2 j k (by simpa using a)
  grind
def FI(l:Nat):List Aa→Prop
 |[]=>True
 |k::ks=>k.1≤l∧FI l ks
theorem Ky{l:Nat}:∀{ks:List Aa},FI l ks→∀k∈ks,k.1≤l
 |q::ks,h,k,a=>by
  rcases YJ.1 a with rfl|a
  ·exact h.1
  ·exact Ky h.2 k a
def FL:Nat→List Nat
 |0=>[]
 |n+1=>FL n++[n]
theorem Kr:∀{n i:Nat},i<n→i∈FL n
 |n+1,i,h=>by
  simp only[FL,JS,Ii]
  rcases Yw i n with a|a
  ·exact .inl (Kr a)
  grind
theorem aS{P:Program}{T:Nat→Option TI}{n:Nat}{f:FuncId}{fn:Func}(u:List ResultVar)(c:Code){l:Nat}{xs:List AV}{H:Hp}{a:AV→Hp→Prop}(ks:List Aa)(g:List Nat)(os:Nat)(θ:Nat→AV)(ys:List AV)(hs:List (Aa×Blk))(Y:AV)(e:List Blk){Y':AV}{bs':List Blk}
  (A:P.funcs[f]?=some fn) (hb:fn.body=some c) (d:(fn.name== "runtime.NumGoroutine")=false) (D:fn.ntmps=n) (F:fn.results.toList=u) (hx:xs.length≤n) (x:AJ P T) (s:ks.length=os)
  (p:FI l ks) (q:ks.Nodup) (j:EJ os hs=true) (w:F9 H (Bn l ks g θ H) hs 0 ks) (t:Ae (Bn l ks g θ H) ys=xs) (m:e.length=os) (o:∀b∈e,b.live=true) (z:∀r,E0 l ks g r→ren r Y=Y') (v:∀r,E0 l ks g r→BG r 0 e=bs')
  (h:∀C,CxOk C→C.outs=os→C.fx=FL os→C.l=l→C.H0=H→C.θ=θ→C.κ=Cd l ks→C.no=(fun k=>k∈ks)→LW P n C c (Ab (B0 0 ys) hs) (FQ T u os (fun y b=>y=Y∧b=e)))
  (E:a Y' (BY H ks bs')):Zbb P f l xs H a:=by
 subst s
 exact bN u c ks g (FL ks.length) θ ys hs Y e A hb d D F hx x (Ky p) q (fun i hi=>Kr hi) (Ob j) (Ov j) (fun i k B=>by have:=OL w i k B;rw[YL]at this;exact this) t m o z v h E
theorem bo{α:Type}{e e':α→List D}{xs:List α}{j sz:Nat}{x:α}(hx:xs[j]?=some x)(hl:∀x,(e x).length=sz)(he:∀x,e x=e' x):DX (Ad e xs) (j*sz) ((e' x).map .d):=by
 have a:j<xs.length:=by
  grind
 have:=aI (z:=x) a hl he
 grind
theorem ga{P:Program}{l o:Nat}{no b:Aa→Prop}{H j:Hp}{c:AV}{m:List AV}{y:AV}(h:Bz P l no H c m y)(hl:l≤o)(i:∀q:Aa,q.1≤l→¬no q→¬b q)(r:∀q:Aa,q.1≤l→¬no q→j q=H q):Bz P o b j c m y:=by
 obtain⟨f,first,a,e,h⟩:=h
 exact⟨f,first,a,e,fun t p g s=>h t p (CI hl g) fun k d n=>by rw[s k (CI d hl) (i k d n),r k d n]⟩
def Uu:Code→Operand
 |.cond o _ _=>o
 |_=>.tmp 0
def De(c:Code)(k:Nat):Option Nat:=match DZ c k with|some (d,_,_)=>d|none=>none
def callF(c:Code)(k:Nat):Operand:=match DZ c k with|some (_,f,_)=>f|none=>.tmp 0
def D2(c:Code)(k:Nat):List Operand:=match DZ c k with|some (_,_,xs)=>xs|none=>[]
theorem SN{P:Program}{n:Nat}{C:Cx}{Q:Exit→St→Prop}(m:CxOk C){os:Nat}{fx:List Nat}(p:C.outs=os)(o:C.fx=fx){c:Code}{k:Nat}{ss:List (Nat×AV)}{hs:List (Aa×Blk)}
  (f:FuncId) (first a xs:List AV) (i:DZ c k=some (De c k,callF c k,D2 c k)) (q:ev (As ss) (callF c k)=.fn (.func f) first a) (l:first++(D2 c k).map (ev (As ss))++a=xs) (ks:List Aa) (hb:List (Aa×Blk)) (e:(ks.map fun k=>(k,Ak hs k))=hb)
  (x:AV) (hb2:List (Aa×Blk)) (fr fl:List Aa) (g:(B2 os hb2&&HO fr hb2&&Hr fr fx&&EG hs&&Hz n (De c k)&&ks.all (AY os))=true) (j:C6 C hb2) (d:FY (Ak hs) fl)
  (b:∀r:Ren,r.θ=C.θ→r.H0=C.H0→r.κ=C.κ→r.no=C.no→EB P C.l r f xs hb x hb2 fr)
  (h:LO P n C c (k+1) (Ab (D6 (De c k) x (Cj fr ss)) (hb2++BL (hb2.map (·.1)) fr fl hs)) Q):LO P n C c k (Ab ss hs) Q:=
 eX m p o _ _ _ i f first a xs q l ks hb e x hb2 fr fl g j d b h
end Go.Eng
namespace Go.Eng
open Go
set_option linter.all false
end Go.Eng
namespace Go.Eng
set_option linter.all false
open Go Go.RowKit Go.Shelf
theorem fY{α:Type}{e:α→List D}{xs:List α}{l h:Nat}(q:Ds l h xs.length):Ds l h (xs.map e).length:=by rw[YH];exact q
theorem fI{α:Type}{e:α→List D}{xs:List α}{sz:Nat}(he:∀x,(e x).length=sz):∀d,d∈xs.map e→d.length=sz:=fun d h=>by
 grind
theorem gb{α:Type}{e:α→List D}{xs:List α}{sz l h:Nat}(he:∀x,(e x).length=sz):JQ (xs.map e) sz l h (((xs.drop l).take (h-l)).map e):=
 ⟨fI he,by rw[←List.map_drop,←List.map_take]⟩
theorem cV{i:Int}{len sz:Nat}(a:0≤i)(h:i<len):HJ i len 0 sz (i.toNat*sz):=⟨a,h,by simp⟩
end Go.Eng
namespace Go.Eng
set_option linter.all false
theorem eF{α:Type}{e e':α→List D}{xs:List α}{j sz:Nat}{y:α}(a:j<xs.length)(hl:∀x,(e x).length=sz)(he:∀x,e x=e' x):GY (Ad e xs) (j*sz) ((e' y).map .d) (Ad e (xs.set j y)):=by
 rw[←he];exact gg a hl
theorem Sl{α:Type}{sz:Nat}{e e':α→List D}{y:α}(C:List AV)(hl:∀x,(e x).length=sz)(he:∀x,e x=e' x):Ea sz C (.d (.list [e' y])) 1 (Ad e [y]):=by
 rw[dt,he];exact db C (by rw[←he];exact hl y)
theorem gZ{α:Type}{e:α→List D}{z:α}{c:List AV}(a:(e z).map .d=c)(m:Nat):(List.replicate m c).flatten=Ad e (List.replicate m z):=by
 subst a
 induction m with
 |zero=>rfl
 |succ m b=>rw[MM,Gc,b,MM,Ha]
end Go.Eng
namespace Go.Eng
set_option linter.all false
open Go Go.RowKit
section
variable {P:Program} {T:Nat→Option TI} {n:Nat} {C:Cx} {τ:St} {Q:Exit→St→Prop}
theorem fe(f:CxOk C){os:Nat}{fx:List Nat}(k:C.outs=os)(i:C.fx=fx){c:Code}(a:AT)(lf:Lf)(q:Ren→(St→Prop)→Prop)
  (m:∀r Φ,AF r os a τ (fun τ _=>Ci fx lf τ Φ)=q r Φ) (h:∀r,r.θ=C.θ→r.H0=C.H0→r.κ=C.κ→r.no=C.no→q r (fun τ'=>LW P n C c τ' Q)):LW P n C c τ Q:=by
 subst k
 subst i
 intro γ σ l j
 have e:=h (C.r γ) rfl rfl rfl rfl
 rw[←m]at e
 obtain⟨y,w,x,g,b,d⟩:=Be (n:=n) f a e j
 obtain⟨u,z,v,o,p,s,t⟩:=Eu (n:=n) f g l b
 exact A0.weak (p u v o s) (d.trans t)
end
end Go.Eng
