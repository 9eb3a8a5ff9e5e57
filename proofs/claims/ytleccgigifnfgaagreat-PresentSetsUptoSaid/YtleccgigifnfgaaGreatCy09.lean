import Derived.Test.YtleccgigifnfgaaGreatCy08
import Derived.Shelf.Spec.SlicesGrow
import Derived.Test.YtleccgigifnfgaaGreatCy00
namespace Go.Eng
structure Raw where
 num:Int
 wire:Int
 bits:Int
 data:ByteArray
deriving Inhabited,DecidableEq
mutual
inductive Val where
 |mk (kind bits:Int) (text:ByteArray) (list:List Val) (pairs:List Pr) (slots:List Slt) (raws:List Raw)
inductive Pr where
 |mk (key val:Val)
inductive Slt where
 |mk (num:Int) (val:Val)
end
inductive Msk where
 |mk (num:Int) (subs:List Msk)
instance:Inhabited Val:=⟨.mk 0 0 .empty [] [] [] []⟩
instance:Inhabited Pr:=⟨.mk default default⟩
instance:Inhabited Slt:=⟨.mk 0 default⟩
instance:Inhabited Msk:=⟨.mk 0 []⟩
def Val.kind:Val→Int|.mk k _ _ _ _ _ _=>k
def Val.bits:Val→Int|.mk _ b _ _ _ _ _=>b
def Val.text:Val→ByteArray|.mk _ _ t _ _ _ _=>t
def Val.list:Val→List Val|.mk _ _ _ l _ _ _=>l
def Val.pairs:Val→List Pr|.mk _ _ _ _ p _ _=>p
def Val.slots:Val→List Slt|.mk _ _ _ _ _ s _=>s
def Val.raws:Val→List Raw|.mk _ _ _ _ _ _ r=>r
def Pr.key:Pr→Val|.mk k _=>k
def Pr.val:Pr→Val|.mk _ v=>v
def Slt.num:Slt→Int|.mk n _=>n
def Slt.val:Slt→Val|.mk _ v=>v
def Msk.num:Msk→Int|.mk n _=>n
def Msk.subs:Msk→List Msk|.mk _ s=>s
def Az(s:ByteArray):List D:=[.str s]
def sS(s:Int):List D:=[.int .i64 s]
def AP(s:Bool):List D:=[.bool s]
def As(x:Raw):List D:=[.int .i64 x.num,.int .i64 x.wire,.int .u64 x.bits,.str x.data]
mutual
def Ap:Val→List D
 |.mk k b t l p s r=>[.int .i64 k,.int .u64 b,.str t,.list (Lj l),.list (J5 p),.list (K7 s),.list (r.map As)]
def Lj:List Val→List (List D)
 |[]=>[]
 |v::vs=>Ap v::Lj vs
def Aq:Pr→List D
 |.mk k v=>Ap k++Ap v
def J5:List Pr→List (List D)
 |[]=>[]
 |v::vs=>Aq v::J5 vs
def Ag:Slt→List D
 |.mk n v=>.int .i64 n::Ap v
def K7:List Slt→List (List D)
 |[]=>[]
 |v::vs=>Ag v::K7 vs
end
mutual
def My:Msk→List D
 |.mk n s=>[.int .i64 n,.list (TP s)]
def TP:List Msk→List (List D)
 |[]=>[]
 |v::vs=>My v::TP vs
end
theorem ZpA(l:List Val):Lj l=l.map Ap:=by induction l with|nil=>rfl|cons v l a=>simp[Lj,a]
theorem ZvD(l:List Pr):J5 l=l.map Aq:=by induction l with|nil=>rfl|cons v l a=>simp[J5,a]
theorem ZtG(l:List Slt):K7 l=l.map Ag:=by induction l with|nil=>rfl|cons v l a=>simp[K7,a]
theorem ZsF(l:List Msk):TP l=l.map My:=by induction l with|nil=>rfl|cons v l a=>simp[TP,a]
def Ai(x:Val):List D:=[.int .i64 x.kind,.int .u64 x.bits,.str x.text,.list (x.list.map Ap),.list (x.pairs.map Aq),.list (x.slots.map Ag),.list (x.raws.map As)]
def GS(x:Pr):List D:=[.int .i64 x.key.kind,.int .u64 x.key.bits,.str x.key.text,.list (x.key.list.map Ap),.list (x.key.pairs.map Aq),.list (x.key.slots.map Ag),.list (x.key.raws.map As),.int .i64 x.val.kind,.int .u64 x.val.bits,.str x.val.text,.list (x.val.list.map Ap),.list (x.val.pairs.map Aq),.list (x.val.slots.map Ag),.list (x.val.raws.map As)]
def Cb(x:Slt):List D:=[.int .i64 x.num,.int .i64 x.val.kind,.int .u64 x.val.bits,.str x.val.text,.list (x.val.list.map Ap),.list (x.val.pairs.map Aq),.list (x.val.slots.map Ag),.list (x.val.raws.map As)]
def s8(x:Msk):List D:=[.int .i64 x.num,.list (x.subs.map My)]
theorem Gu(v:Val):Ap v=Ai v:=by
 cases v;simp[Ap,Ai,ZpA,ZvD,ZtG,Val.kind,Val.bits,Val.text,Val.list,Val.pairs,Val.slots,Val.raws]
theorem KY(v:Pr):Aq v=GS v:=by cases v;simp[Aq,Gu,Ai,GS,Pr.key,Pr.val]
theorem Hy(v:Slt):Ag v=Cb v:=by cases v;simp[Ag,Gu,Ai,Cb,Slt.num,Slt.val]
theorem ZOI(v:Msk):My v=s8 v:=by cases v;simp[My,s8,ZsF,Msk.num,Msk.subs]
structure Typ where
 kind:Int
 name:ByteArray
deriving Inhabited,DecidableEq
def He(x:Typ):List D:=[.int .i64 x.kind,.str x.name]
structure Nt where
 name:ByteArray
 val:Val
deriving Inhabited
def Ay(x:Nt):List D:=[.str x.name,.int .i64 x.val.kind,.int .u64 x.val.bits,.str x.val.text,.list (x.val.list.map Ap),.list (x.val.pairs.map Aq),.list (x.val.slots.map Ag),.list (x.val.raws.map As)]
structure Fld where
 num:Int
 name:ByteArray
 card:Int
 key:Int
 type:Typ
 union:ByteArray
 hasDefault:Bool
 dflt:Val
 notes:List Nt
deriving Inhabited
def Ar(x:Fld):List D:=[.int .i64 x.num,.str x.name,.int .i64 x.card,.int .i64 x.key,.int .i64 x.type.kind,.str x.type.name,.str x.union,.bool x.hasDefault,.int .i64 x.dflt.kind,.int .u64 x.dflt.bits,.str x.dflt.text,.list (x.dflt.list.map Ap),.list (x.dflt.pairs.map Aq),.list (x.dflt.slots.map Ag),.list (x.dflt.raws.map As),.list (x.notes.map Ay)]
structure Spn where
 lo:Int
 hi:Int
deriving Inhabited,DecidableEq
def AR(x:Spn):List D:=[.int .i64 x.lo,.int .i64 x.hi]
structure By where
 b:UInt8
deriving Inhabited,DecidableEq
def By.v(x:By):Int:=x.b.toNat
def eBy(x:By):List D:=[.int .u8 x.v]
structure Msg where
 name:ByteArray
 fields:List Fld
 reserved:List Spn
 gone:List ByteArray
 notes:List Nt
deriving Inhabited
def AH(x:Msg):List D:=[.str x.name,.list (x.fields.map Ar),.list (x.reserved.map AR),.list (x.gone.map Az),.list (x.notes.map Ay)]
structure Itm where
 name:ByteArray
 num:Int
 notes:List Nt
deriving Inhabited
def Ca(x:Itm):List D:=[.str x.name,.int .i64 x.num,.list (x.notes.map Ay)]
structure Enm where
 name:ByteArray
 opn:Bool
 items:List Itm
 reserved:List Spn
 notes:List Nt
deriving Inhabited
def AQ(x:Enm):List D:=[.str x.name,.bool x.opn,.list (x.items.map Ca),.list (x.reserved.map AR),.list (x.notes.map Ay)]
structure Mth where
 name:ByteArray
 inn:ByteArray
 out:ByteArray
 shape:Int
 notes:List Nt
deriving Inhabited
def FX(x:Mth):List D:=[.str x.name,.str x.inn,.str x.out,.int .i64 x.shape,.list (x.notes.map Ay)]
structure Svc where
 name:ByteArray
 methods:List Mth
 notes:List Nt
deriving Inhabited
def AX(x:Svc):List D:=[.str x.name,.list (x.methods.map FX),.list (x.notes.map Ay)]
structure Scm where
 messages:List Msg
 enums:List Enm
 services:List Svc
deriving Inhabited
def AC(x:Scm):List D:=[.list (x.messages.map AH),.list (x.enums.map AQ),.list (x.services.map AX)]
structure Fil where
 name:ByteArray
 space:ByteArray
 imports:List ByteArray
 messages:List Msg
 enums:List Enm
 services:List Svc
deriving Inhabited
def ZTw(x:Fil):List D:=[.str x.name,.str x.space,.list (x.imports.map Az),.list (x.messages.map AH),.list (x.enums.map AQ),.list (x.services.map AX)]
structure Prb where
 dfn:ByteArray
 num:Int
 err:Int
deriving Inhabited,DecidableEq
def Ax(x:Prb):List D:=[.str x.dfn,.int .i64 x.num,.int .i64 x.err]
structure Stp where
 num:Int
 pos:Int
 hasKey:Bool
 key:Val
deriving Inhabited
structure Edt where
 path:List Stp
 kind:Int
 val:Val
deriving Inhabited
class Mv (V:Type) where
 q:Bool
 e:V→List D
 z:V
def AY{V:Type}[Mv V](p:ByteArray×V):List D:=.str p.1::Mv.e p.2
instance:Mv Bool:=⟨false,AP,false⟩
instance:Mv Int:=⟨false,sS,0⟩
instance:Mv Msg:=⟨true,AH,⟨⟨#[]⟩,[],[],[],[]⟩⟩
instance:Mv (List Int):=⟨false,fun x=>[.list (x.map sS)],[]⟩
instance (V:Type) [Mv V]:Mv (List (ByteArray×V)):=⟨false,fun m=>[.map (Mv.q V) (m.map AY)],[]⟩
structure Web where
 messages:List (ByteArray×Msg)
 enums:List (ByteArray×Bool)
deriving Inhabited
def ID(x:Web):List D:=[.map true (x.messages.map AY),.map false (x.enums.map AY)]
structure Lst where
 dfn:ByteArray
 l:List Prb
deriving Inhabited
structure Acs where
 m:Msg
 s:Scm
deriving Inhabited
def Fs(x:Acs):List D:=[.str x.m.name,.list (x.m.fields.map Ar),.list (x.m.reserved.map AR),.list (x.m.gone.map Az),.list (x.m.notes.map Ay),.list (x.s.messages.map AH),.list (x.s.enums.map AQ),.list (x.s.services.map AX)]
structure Lnk where
 files:List Fil
 f:Fil
 known:List ByteArray
 messages:List ByteArray
 enums:List Enm
deriving Inhabited
def ZS4:Raw:=⟨0,0,0,⟨#[]⟩⟩
def JZ:Val:=.mk 0 0 ⟨#[]⟩ [] [] [] []
def zPr:Pr:=.mk JZ JZ
def ZSy:Slt:=.mk 0 JZ
def ZTv:Msk:=.mk 0 []
def ZSs:Typ:=⟨0,⟨#[]⟩⟩
def zNt:Nt:=⟨⟨#[]⟩,JZ⟩
def ZSI:Fld:=⟨0,⟨#[]⟩,0,0,ZSs,⟨#[]⟩,false,JZ,[]⟩
def ZS2:Spn:=⟨0,0⟩
def zBy:By:=⟨0⟩
def ZSF:Msg:=⟨⟨#[]⟩,[],[],[],[]⟩
def ZS7:Itm:=⟨⟨#[]⟩,0,[]⟩
def ZTo:Enm:=⟨⟨#[]⟩,false,[],[],[]⟩
def ZS1:Mth:=⟨⟨#[]⟩,⟨#[]⟩,⟨#[]⟩,0,[]⟩
def ZSZ:Svc:=⟨⟨#[]⟩,[],[]⟩
def ZTu:Fil:=⟨⟨#[]⟩,⟨#[]⟩,[],[],[],[]⟩
def ZSp:Prb:=⟨⟨#[]⟩,0,0⟩
end Go.Eng
namespace Go.Eng
set_option linter.all false
open Go Go.RowKit
def GQ:List Nat→Code→Code
 |[],c=>c
 |0::p,.seq a _=>GQ p a
 |_::p,.seq _ b=>GQ p b
 |0::p,.cond _ a _=>GQ p a
 |_::p,.cond _ _ b=>GQ p b
 |_::p,.block _ c=>GQ p c
 |_::p,.loop c=>GQ p c
 |_::p,.scope c=>GQ p c
 |_,c=>c
def AB(f:Func):Code:=f.body.getD .skip
def Ae{α:Type}(e:α→List D)(xs:List α):List AV:=((xs.map e).flatten).map .d
theorem AW{α:Type}(e:α→List D)(xs:List α):Fo (Ae e xs):=fun x a=>by
 obtain⟨d,_,rfl⟩:=Y0.1 a;rfl
theorem Df{α:Type}{e:α→List D}{sz:Nat}(he:∀x,(e x).length=sz)(xs:List α):(Ae e xs).length=xs.length*sz:=by
 unfold Ae
 induction xs with
 |nil=>simp
 |cons x xs a=>simp only[YL,Y9,Ie,Yv,he,Db,YZ]at a⊢;omega
theorem KD{α:Type}(e:α→List D)(xs ys:List α):Ae e (xs++ys)=Ae e xs++Ae e ys:=by simp[Ae]
section
variable {P:Program} {n:Nat} {C:Cx} {τ:St} {Q:Exit→St→Prop}
theorem ZrW{c:Code}(id:Nat)(x:Code)(b:c=.block id x)(h:LW P n C x τ (fun e τ'=>match e with|.exit i=>(match Nat.beq i id with|true=>Q .normal τ'|false=>Q (.exit i) τ')|e=>Q e τ')):LW P n C c τ Q:=b▸Zye (h.mono fun e τ' a=>by
 cases e with
 |exit i=>
  simp only at a⊢
  split at a
  ·rename_i he;rw[Ys (Yc he)];exact a
  ·rename_i he;rw[Yr (by rintro rfl;simp at he)];exact a
 |_=>exact a)
end
theorem vM{P:Program}{T:Nat→Option TI}{n:Nat}{f:FuncId}{fn:Func}(e:List ResultVar)(c:Code){l:Nat}{xs:List AV}{H:Hp}{a:AV→Hp→Prop}(θ:Nat→AV)(ys:List AV)
  (j:P.funcs[f]?=some fn) (hb:fn.body=some c) (b:(fn.name== "runtime.NumGoroutine")=false) (o:fn.ntmps=n) (r:fn.results.toList=e) (s:xs.length≤n) (g:A7 P T)
  (d:Am ⟨fun k=>(l+1,k.2),fun _=>0,θ,H,fun _=>False⟩ ys=xs) (h:∀B:Base,LW P n (Ub l θ H B) c (Ab (Dk 0 ys) []) (FQ T e 0 (fun y _=>a y H))):Zcq P f l xs H a:=
 w5 e (Ub l θ H) (γ:=fun _=>0) (LPost:=fun y _=>a y H) j hb b o r s g (fun B=>da l B θ H) (fun B=>⟨rfl,rfl,rfl,trivial⟩) (fun B=>d) (fun _=>rfl) (fun _=>rfl) (fun B k m=>by simp[AF,Et]at m) (fun B i hi=>absurd hi (Ih _))
  (fun B γ y u t _ q p hy=>by rw[hy rfl,ZwB p];exact q) h
theorem ZGL{α:Type}(e:α→List D)(xs:List α):Bs ((xs.map e).length:Nat) xs.length:=by simp[Bs]
theorem xH{α:Type}{e e':α→List D}{xs:List α}{i:Nat}{x:α}(a:xs[i]?=some x)(he:∀x,e x=e' x):HP (xs.map e) (i:Nat) (e' x):=⟨by omega,by simp[a,he]⟩
theorem ZHf{α:Type}{e e':α→List D}{xs:List α}{i:Nat}{z:α}(hi:i<xs.length)(he:∀x,e x=e' x):HP (xs.map e) (i:Nat) (e' (xs.getD i z)):=by
 refine xH ?_ he
 grind
theorem y4{a r:Int}(h:a=r)(b: -9223372036854775808≤r)(c:r<9223372036854775808):B8 .i64 a r:=by
 subst h;exact IntWalk.i64_in _ ⟨b,by omega⟩
theorem ZPJ{i len sz:Nat}(h:i<len):J4 (i:Nat) len 0 sz (i*sz):=⟨by omega,by omega,by simp⟩
theorem Zv0{sz:Nat}{e:List D}(C:List AV)(he:e.length=sz):D4 sz C (.d (.list [e])) 1 (e.map .d):=by
 refine⟨Yy.2 fun x a=>?_,fun q b=>?_,rfl,by simp⟩
 ·obtain⟨d,_,rfl⟩:=Y0.1 a;rfl
 grind
theorem di{α:Type}{sz:Nat}{e:α→List D}(C:List AV)(xs:List α)(he:∀x,(e x).length=sz):D4 sz C (.d (.list (xs.map e))) xs.length (Ae e xs):=by
 refine⟨Yy.2 fun x a=>?_,fun q b=>?_,by simp,rfl⟩
 ·obtain⟨d,_,rfl⟩:=Y0.1 a;rfl
 grind
theorem Zwr{α:Type}{sz:Nat}{e:α→List D}(k:Ac)(g:Nat)(xs:List α)(he:∀x,(e x).length=sz):D4 sz (Ae e xs) (.ref k g 0 xs.length) xs.length (Ae e xs):=by
 refine⟨Yy.2 fun x a=>?_,rfl,by rw[Df he];simp,by rw[Gj,FK,←Df he xs,L9]⟩
 obtain⟨d,_,rfl⟩:=Y0.1 a;rfl
theorem Zxk{α:Type}{sz byt:Nat}{e:α→List D}(xs ys:List α){a:Nat}(he:∀x,(e x).length=sz)(b:xs.length+ys.length=a)(hb:a*byt≤140737488355328):
  IK (Ae e xs) 0 xs.length ys.length sz byt (Ae e ys) (Ae e (xs++ys)) a:=
 ⟨by rw[Df he,YP],by rw[Gj,FK,KD],b,hb⟩
theorem ZvI{α:Type}(e:α→List D)(x:α):Ae e [x]=(e x).map .d:=by simp[Ae]
theorem xV{α:Type}{sz:Nat}{e:α→List D}(xs:List α)(b:sz≠0)(he:∀x,(e x).length=sz):G1 (Ae e xs) 0 xs.length sz (xs.map e):=
 ⟨by simp,b,fun q a=>by obtain⟨x,_,rfl⟩:=Y0.1 a;exact he x,by rw[Df he];simp,by rw[Gj,FK,←Df he xs,L9];rfl⟩
theorem wP{α:Type}{e e':α→List D}{xs:List α}{i:Int}{z:α}(a:0≤i)(hi:i<xs.length)(he:∀x,e x=e' x):HP (xs.map e) i (e' (xs.getD i.toNat z)):=by
 have h:=ZHf (e:=e) (e':=e') (xs:=xs) (i:=i.toNat) (z:=z) (by omega) he
 grind
theorem ZOw(s:ByteArray):s.data.toList.length=s.size:=by simp
theorem ZF7{s:ByteArray}{i:Nat}{x:UInt8}(h:s.data.toList[i]?=some x):Hk s (i:Nat) (x.toNat:Nat):=⟨by omega,x,by simpa using h,rfl⟩
theorem ya{s:ByteArray}{i:Nat}(h:i<s.size):Hk s (i:Nat) ((s.data.toList.getD i 0).toNat:Nat):=by
 refine ZF7 ?_
 rw[YG,Yh (by rw[ZOw];exact h)];rfl
theorem Re{α:Type}{sz byt c:Nat}{e:α→List D}{news:List AV}(xs ys:List α)(he:∀x,(e x).length=sz)(a:ys.length=c)(b:news=Ae e ys)(hb:(xs.length+ys.length)*byt≤140737488355328):
  IK (Ae e xs) 0 xs.length c sz byt news (Ae e (xs++ys)) (xs++ys).length:=by
 subst a;subst b
 exact Zxk xs ys he (by rw[Yv]) (by rw[Yv];exact hb)
section
variable {P:Program} {l:Nat} {r:Ren} {f:FuncId} {xs xs':List AV} {hb:List (Ac×Blk)} {x x':AV}
def Cg(P:Program)(l:Nat)(no:Ac→Prop)(H:Hp)(c:AV)(g:List AV)(y:AV):Prop:=
 ∃f first a,c=.fn (.func f) first a∧∀e b,l≤e→(∀k:Ac,k.1≤l→¬no k→b k=H k)→Zcq P f e (first++g++a) b (fun h d=>h=y∧d=b)
theorem ZwS{i:Nat}{c:AV}(j:r.θ i=c)(h:Cg P l r.no r.H0 c xs' x')(d:Am r xs=xs')(e:ren r x=x'):NZ P l r i xs hb x:=by
 obtain⟨f,first,a,rfl,h⟩:=h
 exact⟨f,first,a,j,fun b _ g=>by rw[d,e];exact h (l+1) b (Nat.le_succ l) g⟩
end
section
variable {P:Program} {T:Nat→Option TI} {n:Nat} {C:Cx} {τ:St} {Q:Exit→St→Prop}
theorem ZGw(g:CxOk C)(k:A7 P T)(hm:P.follows .mixedOrders=true){os:Nat}{fx:List Nat}(d:C.outs=os)(i:C.fx=fx){c:Code}(a:AT)(lf e:Lf)(f:List ResultVar){b:AV→List Blk→Prop}(q:Ren→(Exit→St→Prop)→(AV→List Blk→Prop)→Prop)
  (l:∀r Q b,Cw P T C.l n os r c a τ (KB T f os fx r b lf e Q)=q r Q b) (j:∀τ,FQ T f os b .ret τ→Q .ret τ) (h:∀r,r.θ=C.θ→r.H0=C.H0→r.κ=C.κ→r.no=C.no→q r Q b):LW P n C c τ Q:=
 ZJS g k hm a lf e (by rw[d];exact j) (fun γ=>by rw[d,i,l];exact h _ rfl rfl rfl rfl)
theorem ZFV(e:CxOk C)(g:A7 P T)(hm:P.follows .mixedOrders=true){os:Nat}(f:C.outs=os){c:Code}(a:AT)(d:List ResultVar){b:AV→List Blk→Prop}(q:Ren→(AV→List Blk→Prop)→Prop)
  (i:∀r b,Cw P T C.l n os r c a τ (KF T d os b)=q r b) (h:∀r,r.θ=C.θ→r.H0=C.H0→r.κ=C.κ→r.no=C.no→q r b):LW P n C c τ (FQ T d os b):=by
 subst f
 exact ZI4 e g hm a (fun γ=>by rw[i];exact h _ rfl rfl rfl rfl)
mutual
theorem Zwg{H:Hp}:∀(x:AV) {a:AT} {K c:AV→AT→Prop},(∀y a,K y a→c y a)→frz H x a K→frz H x a c
 |.d x,a,K,c,b,h=>b _ _ h
 |.e0,a,K,c,b,h=>b _ _ h
 |.agg xs,a,K,c,b,h=>wj xs (fun ys a h=>b _ _ h) h
 |.ref k g off m,a,K,c,b,h=>by
  unfold frz at h⊢
  grind
 |.top,a,K,c,b,h=>by simp only[frz]at h
 |.p _,a,K,c,b,h=>by simp only[frz]at h
 |.ptr _ _ _,a,K,c,b,h=>by simp only[frz]at h
 |.mp k g,a,K,c,b,h=>by
  unfold frz at h⊢
  grind
 |.iptr _ _,a,K,c,b,h=>by simp only[frz]at h
 |.ifc _ _ _,a,K,c,b,h=>b _ _ h
 |.fn _ _ _,a,K,c,b,h=>by simp only[frz]at h
 |.tup _,a,K,c,b,h=>by simp only[frz]at h
theorem wj{H:Hp}:∀(xs:List AV) {a:AT} {K b:List AV→AT→Prop},(∀y a,K y a→b y a)→Hq H xs a K→Hq H xs a b
 |[],a,K,b,c,h=>c _ _ h
 |x::xs,a,K,b,c,h=>by
  simp only[Hq]at h⊢
  exact Zwg x (fun y a h=>wj xs (fun ys a h=>c _ _ h) h) h
end
end
theorem FO{α:Type}(e:α→List D)(x:α)(xs:List α):Ae e (x::xs)=(e x).map .d++Ae e xs:=by simp[Ae]
theorem Ku{α:Type}{e:α→List D}{sz:Nat}(hl:∀x,(e x).length=sz):∀(xs:List α) (j:Nat),(Ae e xs).drop (j*sz)=Ae e (xs.drop j)
 |[],j=>by simp[Ae]
 |x::xs,0=>by simp
 |x::xs,j+1=>by
  have a:((e x).map AV.d).length=sz:=by rw[YL,hl]
  rw[FO,YZ,JH,L1,←Md,List.drop_left' a,Ku hl xs j]
  rfl
theorem RB{α:Type}{e:α→List D}{sz:Nat}(hl:∀x,(e x).length=sz):∀(xs:List α) (j:Nat),(Ae e xs).take (j*sz)=Ae e (xs.take j)
 |[],j=>by simp[Ae]
 |x::xs,0=>by simp[Ae]
 |x::xs,j+1=>by
  have a:((e x).map AV.d).length=sz:=by rw[YL,hl]
  rw[FO,List.take_succ_cons,FO,YZ,JH,L1,List.take_append,a,Nat.add_sub_cancel_left,RB hl xs j,OP (by omega)]
theorem x3{α:Type}{xs:List α}{j:Nat}{z:α}(a:j<xs.length):xs.drop j=xs.getD j z::xs.drop (j+1):=by
 rw[Ik a,YG,Yh a];rfl
theorem vh{α:Type}{e e':α→List D}{xs:List α}{j sz:Nat}{z:α}(a:j<xs.length)(hl:∀x,(e x).length=sz)(he:∀x,e x=e' x):DB (Ae e xs) (j*sz) ((e' (xs.getD j z)).map .d):=by
 unfold DB
 rw[Ku hl,x3 (z:=z) a,FO,he,List.take_left]
theorem Zku{α:Type}{e e':α→List D}{xs:List α}{j sz o:Nat}{z:α}{c:List AV}(b:j<xs.length)(hl:∀x,(e x).length=sz)(he:∀x,e x=e' x)
  (a:(((e' (xs.getD j z)).map .d).drop o).take c.length=c) (f:o+c.length≤sz):DB (Ae e xs) (j*sz+o) c:=by
 unfold DB
 have d:((e' (xs.getD j z)).map AV.d).length=sz:=by rw[YL,←he,hl]
 rw[←Md,Ku hl,x3 (z:=z) b,FO,he,my (by omega),UK (by rw[Y2];omega),a]
theorem ZBQ{α:Type}{e:α→List D}{xs:List α}{j sz:Nat}{y:α}(b:j<xs.length)(hl:∀x,(e x).length=sz):G4 (Ae e xs) (j*sz) ((e y).map .d) (Ae e (xs.set j y)):=by
 have a:((e y).map AV.d).length=sz:=by rw[YL,hl]
 have c:(j+1)*sz≤xs.length*sz:=YY _ b
 rw[YZ,JH]at c
 refine⟨by rw[a,Df hl];omega,?_⟩
 rw[a,RB hl,show j*sz+sz=(j+1)*sz from by rw[YZ,JH],Ku hl,mu,Ys b,KD,FO,Eg]
def CK(r:Ren):List (Ac×Blk)→Hp→Hp
 |[],H=>H
 |(k,b)::rest,H=>CK r rest (updH H (r.κ k) (AI r k b))
def GA(P:Program)(l:Nat)(r:Ren)(f:FuncId)(xs:List AV)(d:List (Ac×Blk))(x:AV)(Aw:List (Ac×Blk))(fr:List Ac):Prop:=
 ∀a,(∀p∈d,(a (r.κ p.1)).g=r.γ p.1+p.2.g∧(p.2.live=true→a (r.κ p.1)=AI r p.1 p.2))→(∀k:Ac,k.1≤l→¬r.no k→a k=r.H0 k)→
  Zcq P f (l+1) (Am r xs) a (fun y b=>∃c:Ac→Nat,(∀k,k∉fr→c k=r.γ k)∧y=ren ⟨r.κ,c,r.θ,r.H0,r.no⟩ x∧b=CK ⟨r.κ,c,r.θ,r.H0,r.no⟩ Aw a)
mutual
def FS(fr:List Ac):AV→Bool
 |.ref k _ _ _=>fr.any (Bq k)
 |.ptr k _ _=>fr.any (Bq k)
 |.mp k _=>fr.any (Bq k)
 |.fn _ xs ys=>Gt fr xs||Gt fr ys
 |.agg xs=>Gt fr xs
 |.tup xs=>Gt fr xs
 |.top=>false
 |.d _=>false
 |.e0=>false
 |.p _=>false
 |.iptr _ _=>false
 |.ifc _ _ _=>false
def Gt(fr:List Ac):List AV→Bool
 |[]=>false
 |x::xs=>FS fr x||Gt fr xs
end
def DD(fr:List Ac):List (Nat×AV)→List (Nat×AV)
 |[]=>[]
 |(j,x)::r=>(j,match FS fr x with|true=>.top|false=>x)::DD fr r
def Cy(ks fr fl:List Ac):List (Ac×Blk)→List (Ac×Blk)
 |[]=>[]
 |(k,b)::r=>match ks.any (Bq k),fl.any (Bq k)||!Gt fr b.cells with
  |false,true=>(k,b)::Cy ks fr fl r
  |_,_=>Cy (k::ks) fr fl r
def F7:Option Nat→AV→List (Nat×AV)→List (Nat×AV)
 |some d,x,r=>(d,x)::r
 |none,_,r=>r
def Bx(os:Nat)(k:Ac):Bool:=Nat.beq k.1 1||(Nat.beq k.1 0&&Nat.ble (k.2+1) os)
def C4(os:Nat):List (Ac×Blk)→Bool
 |[]=>true
 |(k,b)::r=>Bx os k&&b.live&&!(r.any fun p=>Bq k p.1)&&C4 os r
mutual
theorem vJ{r:Ren}{b:Ac→Nat}{fr:List Ac}(a:∀k,k∉fr→b k=r.γ k):∀(x:AV),FS fr x=false→ren ⟨r.κ,b,r.θ,r.H0,r.no⟩ x=ren r x
 |.ref k g off n,h=>by simp only[FS]at h;simp only[ren];rw[a k (RJ h)]
 |.ptr k g off,h=>by simp only[FS]at h;simp only[ren];rw[a k (RJ h)]
 |.mp k g,h=>by simp only[FS]at h;simp only[ren];rw[a k (RJ h)]
 |.fn f xs ys,h=>by
  simp only[FS,Ym]at h
  have c:=Ko a xs h.1
  have d:=Ko a ys h.2
  cases f<;>simp only[ren,c,d]
 |.agg xs,h=>by simp only[FS]at h;simp only[ren,Ko a xs h]
 |.tup xs,h=>by simp only[FS]at h;simp only[ren,Ko a xs h]
 |.top,_=>by simp[ren]
 |.d _,_=>by simp[ren]
 |.e0,_=>by simp[ren]
 |.p _,_=>by simp[ren]
 |.iptr _ _,_=>by simp[ren]
 |.ifc _ _ _,_=>by simp[ren]
theorem Ko{r:Ren}{b:Ac→Nat}{fr:List Ac}(a:∀k,k∉fr→b k=r.γ k):∀(xs:List AV),Gt fr xs=false→Am ⟨r.κ,b,r.θ,r.H0,r.no⟩ xs=Am r xs
 |[],_=>by simp[Am]
 |x::xs,h=>by
  simp only[Gt,Ym]at h
  simp only[Am,vJ a x h.1,Ko a xs h.2]
theorem RJ{k:Ac}{fr:List Ac}(h:fr.any (Bq k)=false):k∉fr:=fun hm=>by
 have:fr.any (Bq k)=true:=YW.2 ⟨k,hm,B3.2 rfl⟩
 grind
end
def BZ:Code→Array Oper
 |.region _ ops _=>ops
 |_=>#[]
def oG:Code→Bool
 |.region _ _ false=>true
 |_=>false
def HJ{α:Type}:Nat→List α→List α
 |0,l=>l
 |_+1,[]=>[]
 |n+1,_::l=>HJ n l
def HA{α:Type}:Nat→List α→List α
 |0,_=>[]
 |_+1,[]=>[]
 |n+1,x::l=>x::HA n l
theorem dB{α:Type}:∀(n:Nat) (l:List α),HJ n l=l.drop n
 |0,l=>rfl
 |n+1,[]=>rfl
 |n+1,x::l=>dB n l
theorem Rn{α:Type}:∀(n:Nat) (l:List α),HA n l=l.take n
 |0,l=>rfl
 |n+1,[]=>rfl
 |n+1,x::l=>by rw[HA,Rn n l];rfl
def LO(P:Program)(n:Nat)(C:Cx)(c:Code)(k:Nat)(τ:St)(Q:Exit→St→Prop):Prop:=
 ∀γ σ a w,C.G γ→RG (C.r γ) C.l C.outs [] τ σ→R C.l n C.B σ a w→wpList P (BZ c) (fun e d w'=>∃b,Is n C (Q e) b∧R C.l n C.B b d w') ((BZ c).toList.drop k) a w
def FT(c:Code)(k:Nat):Option (Option Nat×Operand×List Operand):=
 match Bj (BZ c).toList k with
 |some o=>(match o.guard,o.op with
  |none,.call cl=>(match cl.callee with|.value f=>some (o.dst,f,cl.args.toList)|_=>none)
  |_,_=>none)
 |none=>none
def ED(C:Cx):List (Ac×Blk)→Prop
 |[]=>True
 |(k,_)::r=>match Nat.beq k.1 1 with|true=>ED C r|false=>C.no (C.κ k)∧ED C r
def HV(H:Hp):List Ac→Prop
 |[]=>True
 |k::r=>Fo (H k).cells∧HV H r
def J8(fr:List Ac)(Aw:List (Ac×Blk)):Bool:=fr.all fun k=>Aw.any fun p=>Bq k p.1
def K2(fr:List Ac)(fx:List Nat):Bool:=fr.all fun k=>!(Nat.beq k.1 0&&fx.any (Nat.beq k.2))
def GB:List (Ac×Blk)→Bool
 |[]=>true
 |(_,b)::r=>Nat.beq b.g 0&&GB r
def sD:Option Nat→(Nat→AV)→AV→Nat→AV
 |some d,s,v=>upd s d v
 |none,s,_=>s
def Li(n:Nat):Option Nat→Bool
 |some d=>Nat.ble (d+1) n
 |none=>true
section
variable {P:Program} {T:Nat→Option TI} {n:Nat} {C:Cx} {τ:St} {Q:Exit→St→Prop}
theorem Zn1{c:Code}(b:oG c=true)(h:LO P n C c 0 τ Q):LW P n C c τ Q:=by
 cases c with
 |region id ops d=>
  cases d with
  |true=>cases b
  |false=>
   obtain⟨i,rfl⟩:∃l:List Oper,ops=l.toArray:=⟨ops.toList,by simp⟩
   intro γ σ g e a w f
   have:=h γ σ a w g e f
   simp only[BZ,FK]at this
   exact wp_region_lit this
 |_=>cases b
theorem ZH9(d:CxOk C)(A:A7 P T){os:Nat}{fx:List Nat}(y:C.outs=os)(v:C.fx=fx){c:Code}{k:Nat}(m:Nat)(a:AT)(lf:Lf)(q:Ren→(St→Prop)→Prop)
  (E:∀r Φ,Bf r os a τ (fun τ a=>F2 P T C.l n r ((BZ c).toList.map (·.dst)) (HA m (HJ k (BZ c).toList)) [] a (fun τ' env f=>Bf r os f (DE env τ') (fun τ _=>ER fx lf τ Φ)) τ)=q r Φ)
  (h:∀r,r.θ=C.θ→r.H0=C.H0→r.κ=C.κ→r.no=C.no→q r (fun τ'=>LO P n C c (k+m) τ' Q)):LO P n C c k τ Q:=by
 subst y
 subst v
 intro γ σ g w D x z
 have o:=h (C.r γ) rfl rfl rfl rfl
 rw[←E]at o
 obtain⟨R,p,N,u,i,j⟩:=BX (n:=n) d a o x
 have e:(BZ c).toList.drop k=HA m (HJ k (BZ c).toList)++(BZ c).toList.drop (k+m):=by
  rw[Rn,dB,←Md,Ia]
 rw[e]
 refine Kx (d.ren γ) A (B:=C.B) _ (fun τ' l f U b w' J K L=>?_) _ [] p R N g w u i (j _ _ z)
 obtain⟨V,s,t⟩:=M7 (n:=n) K
 obtain⟨X,S,W,f1,f2,f3⟩:=BX (n:=n) d f J s
 obtain⟨M,Y,O,F,G,H,I⟩:=Gp (n:=n) d f1 D f2
 exact G M O b w' F H (I _ _ (f3 _ _ (t _ _ L)))
theorem ZL8(b:CxOk C)(A:A7 P T){os:Nat}{fx:List Nat}(y:C.outs=os)(v:C.fx=fx){c:Code}{k:Nat}(a:AT)(lf:Lf)(q:Ren→(Exit→St→Prop)→Prop)
  (E:∀r Φ,Bf r os a τ (fun τ a=>F2 P T C.l n r ((BZ c).toList.map (·.dst)) (HJ k (BZ c).toList) [] a (fun τ' env d=>Bf r os d (DE env τ') (fun τ _=>ER fx lf τ (Φ .normal))) τ)=q r Φ)
  (h:∀r,r.θ=C.θ→r.H0=C.H0→r.κ=C.κ→r.no=C.no→q r Q):LO P n C c k τ Q:=by
 subst y
 subst v
 intro γ σ f w D x z
 have m:=h (C.r γ) rfl rfl rfl rfl
 rw[←E]at m
 obtain⟨O,p,N,u,g,i⟩:=BX (n:=n) b a m x
 have e:(BZ c).toList.drop k=HJ k (BZ c).toList++[]:=by rw[dB,Mb]
 rw[e]
 refine Kx (b.ren γ) A (B:=C.B) _ (fun τ' l d U j w' J K L=>?_) _ [] p O N f w u g (i _ _ z)
 obtain⟨V,s,t⟩:=M7 (n:=n) K
 obtain⟨X,S,W,f1,f2,f3⟩:=BX (n:=n) b d J s
 obtain⟨M,R,o,F,G,H,I⟩:=Gp (n:=n) b f1 D f2
 unfold wpList
 exact⟨o,⟨M,R,o,F,G,H,Wk.refl _⟩,I _ _ (f3 _ _ (t _ _ L))⟩
theorem Rq:∀{hs:List (Ac×Blk)},GB hs=true→∀k,(AF hs k).g=0
 |[],_,k=>rfl
 |(k',b)::r,h,k=>by
  simp only[GB,Ya]at h
  simp only[AF]
  split
  ·exact Yc h.1
  ·exact Rq h.2 k
theorem w7{k:Ac}{ks:List Ac}:ks.any (Bq k)=true↔k∈ks:=by
 rw[YW]
 exact⟨fun⟨q,a,b⟩=>by rw[B3.1 b];exact a,fun h=>⟨k,h,B3.2 rfl⟩⟩
theorem ZFH(a b:List (Ac×Blk))(k:Ac):AF (a++b) k=if k∈a.map (·.1)then AF a k else AF b k:=by
 induction a with
 |nil=>simp
 |cons p a f=>
  obtain⟨q,d⟩:=p
  simp only[L6,AF,Y9,YM]
  cases c:Bq q k with
  |true=>rw[Ys (.inl (B3.1 c).symm)]
  |false=>
   have:k≠q:=fun e=>by rw[B3.2 e.symm]at c;cases c
   grind
theorem M8{fr fl:List Ac}:∀(hs:List (Ac×Blk)) (ks:List Ac) (k:Ac),(k∈ks→AF (Cy ks fr fl hs) k=Et)∧(k∉ks→(AF (Cy ks fr fl hs) k=AF hs k∧(k∈fl∨Gt fr (AF hs k).cells=false))∨AF (Cy ks fr fl hs) k=Et)
 |[],ks,k=>⟨fun _=>rfl,fun _=>.inr rfl⟩
 |(q,b)::r,ks,k=>by
  simp only[Cy]
  split
  ·rename_i d a
   have f:q∉ks:=fun hm=>by rw[w7.2 hm]at d;cases d
   simp only[AF]
   cases c:Bq q k with
   |true=>
    have c:=B3.1 c
    subst c
    refine⟨fun h=>absurd h f,fun _=>.inl ⟨rfl,?_⟩⟩
    simp only[Yj,Yk]at a
    rcases a with a|a
    ·exact .inl (w7.1 a)
    grind
   |false=>exact M8 r ks k
  ·obtain⟨d,a⟩:=M8 (fr:=fr) (fl:=fl) r (q::ks) k
   refine⟨fun h=>d (YS _ h),fun h=>?_⟩
   by_cases c:k=q
   ·grind
   ·rcases a (fun hm=>(YM.1 hm).elim c h)with⟨i,j⟩|e
    ·have:Bq q k=false:=by
      cases g:Bq q k with
      |true=>exact absurd (B3.1 g).symm c
      |false=>rfl
     simp only[AF,this]
     grind
    grind
theorem Rb{r:Ren}:∀(Aw:List (Ac×Blk)) (H:Hp) (q:Ac),(∀p∈Aw,r.κ p.1≠q)→CK r Aw H q=H q
 |[],H,q,h=>rfl
 |(k,b)::rest,H,q,h=>by
  simp only[CK]
  rw[Rb rest _ q (fun p a=>h p (YS _ a)),AG _ _ (fun e=>h (k,b) (Y1 ..) e.symm)]
theorem xl{r:Ren}{os:Nat}(d:∀q k:Ac,Bx os q=true→Bx os k=true→q≠k→r.κ q≠r.κ k):∀(Aw:List (Ac×Blk)) (H:Hp),C4 os Aw=true→∀k b,(k,b)∈Aw→CK r Aw H (r.κ k)=AI r k b∧AF Aw k=b∧Bx os k=true∧b.live=true
 |[],H,_,k,b,hm=>by cases hm
 |(q,c)::rest,H,g,k,b,hm=>by
  simp only[C4,Ya,Yk]at g
  obtain⟨⟨⟨i,u⟩,j⟩,m⟩:=g
  have f:∀p∈rest,p.1≠q:=fun p a e=>by
   have:(rest.any fun p=>Bq q p.1)=true:=YW.2 ⟨p,a,B3.2 e.symm⟩
   rw[this]at j;cases j
  have h:∀(l:List (Ac×Blk)),C4 os l=true→∀p∈l,Bx os p.1=true:=by
   intro l
   induction l with
   |nil=>intro _ p a;cases a
   |cons p l w=>
    obtain⟨x,y⟩:=p
    intro hl p a
    simp only[C4,Ya]at hl
    rcases YM.1 a with rfl|a
    ·exact hl.1.1.1
    ·exact w hl.2 p a
  simp only[CK]
  rcases YM.1 hm with e|hm
  ·cases e
   refine⟨?_,by simp only[AF,B3.2 rfl],i,u⟩
   rw[Rb rest _ _ (fun p a=>d _ _ (h rest m p a) i (f p a)),AN]
  ·obtain⟨n,o,s,t⟩:=xl d rest (updH H (r.κ q) (AI r q c)) m k b hm
   refine⟨n,?_,s,t⟩
   have:Bq q k=false:=by
    cases v:Bq q k with
    |true=>exact absurd (B3.1 v).symm (f _ hm)
    |false=>rfl
   simp only[AF,this]
   exact o
theorem jv:∀{Aw:List (Ac×Blk)},ED C Aw→∀p∈Aw,p.1.1≠1→C.no (C.κ p.1)
 |(k,b)::r,h,p,c,a=>by
  simp only[ED]at h
  split at h
  ·rename_i d
   rcases YM.1 c with rfl|c
   ·exact absurd (Yc d) a
   ·exact jv h p c a
  ·rcases YM.1 c with rfl|c
   ·exact h.1
   ·exact jv h.2 p c a
theorem fT{H:Hp}:∀{ks:List Ac},HV H ks→∀k∈ks,Fo (H k).cells
 |q::r,h,k,a=>by
  rcases YM.1 a with rfl|a
  ·exact h.1
  ·exact fT h.2 k a
theorem Fl{os:Nat}{k:Ac}(h:Bx os k=true):k.1=1∨(k.1=0∧k.2<os):=by
 simp only[Bx,Yj,Ya]at h
 rcases h with h|⟨a,b⟩
 ·exact .inl (Yc h)
 ·exact .inr ⟨Yc a,Yo b⟩
theorem wW{fr:List Ac}:∀(ss:List (Nat×AV)) (j:Nat),AM (DD fr ss) j=.top∨(AM (DD fr ss) j=AM ss j∧FS fr (AM ss j)=false)
 |[],j=>.inl rfl
 |(i,x)::r,j=>by
  simp only[DD,AM]
  split
  ·grind
  ·exact wW r j
theorem ZwT(hC:CxOk C){os:Nat}{fx:List Nat}(hO:C.outs=os)(hF:C.fx=fx){c:Code}{k:Nat}{ss:List (Nat×AV)}{hs:List (Ac×Blk)}(l:Option Nat)(fo:Operand)(aZ:List Operand)(m:FT c k=some (l,fo,aZ))
  (f:FuncId) (first u xs:List AV) (hf:ev (AM ss) fo=.fn (.func f) first u) (hxs:first++aZ.map (ev (AM ss))++u=xs) (ks:List Ac) (J:List (Ac×Blk)) (hhb:(ks.map fun k=>(k,AF hs k))=J)
  {ι:Type} (I:ι→Prop) (xF:ι→AV) (s:ι→List (Ac×Blk)) (fr fl:List Ac) (M:(K2 fr fx&&GB hs&&Li n l&&ks.all (Bx os))=true) (t:∀i,(C4 os (s i)&&J8 fr (s i))=true) (H:∀i,ED C (s i)) (hfl:HV (AF hs) fl)
  (T:∀r:Ren,r.θ=C.θ→r.H0=C.H0→r.κ=C.κ→r.no=C.no→∀V,(∀p∈J,(V (r.κ p.1)).g=r.γ p.1+p.2.g∧(p.2.live=true→V (r.κ p.1)=AI r p.1 p.2))→(∀k:Ac,k.1≤C.l→¬r.no k→V k=r.H0 k)→
   Zcq P f (C.l+1) (Am r xs) V (fun y W=>∃i,I i∧∃a:Ac→Nat,(∀k,k∉fr→a k=r.γ k)∧y=ren ⟨r.κ,a,r.θ,r.H0,r.no⟩ (xF i)∧W=CK ⟨r.κ,a,r.θ,r.H0,r.no⟩ (s i) V))
  (h:∀i,I i→LO P n C c (k+1) (Ab (F7 l (xF i) (DD fr ss)) (s i++Cy ((s i).map (·.1)) fr fl hs)) Q):LO P n C c k (Ab ss hs) Q:=by
 subst hO
 subst hF
 simp only[Ya]at M
 obtain⟨⟨⟨k3,k4⟩,k5⟩,k6⟩:=M
 intro γ σ act w hg z hR
 have hr:=hC.ren γ
 have hs':∀j,σ.s j=ren (C.r γ) (AM ss j):=fun j=>(z.s j).1 A0
 have A:∀y:Operand,ev σ.s y=ren (C.r γ) (ev (AM ss) y):=fun y=>Jf (c:=[]) z A0 (by cases y<;>rfl)
 unfold FT at m
 split at m
 case h_2=>cases m
 rename_i o ho
 split at m
 case h_2=>cases m
 rename_i cl hgd hopc
 split at m
 case h_2=>cases m
 rename_i fo' hcal
 simp only[Yq,FL]at m
 obtain⟨hd,rfl,rfl⟩:=m
 rw[BY]at ho
 have hlt:k<(BZ c).toList.length:=by
  grind
 have U:(BZ c).toList.drop k=o::(BZ c).toList.drop (k+1):=by
  rw[Ik hlt]
  grind
 rw[U]
 have L:∀q k:Ac,Bx C.outs q=true→Bx C.outs k=true→q≠k→(C.r γ).κ q≠(C.r γ).κ k:=fun q k Z h2 h3=>hr.ne (Fl Z) (Fl h2) h3
 have hA:=T (C.r γ) rfl rfl rfl rfl σ.H (fun p E=>by
  rw[←hhb]at E
  obtain⟨q,g,rfl⟩:=Y0.1 E
  have hq':=Fl (Yy.1 k6 q g)
  refine⟨?_,fun hl=>z.h q hl⟩
  obtain⟨q1,q2⟩:=q
  simp only at hq'
  rcases hq' with rfl|⟨rfl,h2⟩
  ·have:=z.g q2
   rw[←hr.own]at this
   exact this
  ·exact z.go q2 h2) z.o
 have S:Am (C.r γ) xs=Am (C.r γ) first++cl.args.toList.map (ev σ.s)++Am (C.r γ) u:=by
  rw[←hxs,FP,FP]
  congr 2
  rw[EH,G5]
  exact Fe fun y _=>(A y).symm
 have hfe:ev σ.s fo'=.fn (.func f) (Am (C.r γ) first) (Am (C.r γ) u):=by rw[A,hf];simp[ren]
 have hrop:Bp P C.l n o (fun σ'=>∃i,I i∧∃a:Ac→Nat,(∀q,q∉fr→a q=γ q)∧σ'=⟨sD l σ.s (ren (C.r a) (xF i)),CK (C.r a) (s i) σ.H⟩) σ:=by
  unfold Bp
  rw[hopc]
  simp only[hcal,hfe]
  rw[S]at hA
  refine hA.mono fun y W ⟨i,hi,a,N,e2,e3⟩=>?_
  unfold MF B9
  rw[hd]
  cases l with
  |none=>exact⟨i,hi,a,N,by rw[e3];rfl⟩
  |some d=>exact⟨Yo k5,i,hi,a,N,by rw[e2,e3];rfl⟩
 refine bZ (by simp[Region.wanted,hgd]) (Kv hrop) hR fun σ' Y w' hK O=>?_
 obtain⟨i,hi,a,N,rfl⟩:=hK
 have h:=h i hi
 have H:=H i
 have t:=t i
 generalize s i=Aw at h H t O
 generalize xF i=x at h O
 simp only[Ya]at t
 obtain⟨k1,k2⟩:=t
 have hsub:∀q,q∈fr→∃b,(q,b)∈Aw:=fun q g=>by
  obtain⟨p,E,hk⟩:=YW.1 (Yy.1 k2 q g)
  rw[B3.1 hk];exact⟨p.2,E⟩
 let τ2:St:=Ab (F7 l x (DD fr ss)) (Aw++Cy (Aw.map (·.1)) fr fl hs)
 have D:∀q,AF (Aw++Cy (Aw.map (·.1)) fr fl hs) q=if q∈Aw.map (·.1)then AF Aw q else AF (Cy (Aw.map (·.1)) fr fl hs) q:=fun q=>ZFH _ _ _
 have hin:∀q,q∈Aw.map (·.1)→∃b,(q,b)∈Aw:=fun q g=>by obtain⟨p,E,rfl⟩:=Y0.1 g;exact⟨p.2,E⟩
 have F:∀q b,(q,b)∈Aw→CK (C.r a) Aw σ.H ((C.r a).κ q)=AI (C.r a) q b∧AF Aw q=b∧Bx C.outs q=true∧b.live=true:=xl (r:=C.r a) L Aw σ.H k1
 have B:∀q,q∉Aw.map (·.1)→Bx C.outs q=true→CK (C.r a) Aw σ.H ((C.r a).κ q)=σ.H ((C.r a).κ q)∧a q=γ q:=fun q g v=>by
  refine⟨Rb _ _ _ fun p E=>L _ _ (F p.1 p.2 E).2.2.1 v fun e=>g (Y0.2 ⟨p,E,e⟩),N q fun hf=>?_⟩
  grind
 have K:∀q,Bx C.outs q=true→(σ.H (C.κ q)).g=γ q→(CK (C.r a) Aw σ.H (C.κ q)).g=a q+(AF (Aw++Cy (Aw.map (·.1)) fr fl hs) q).g:=fun q v hq0=>by
  rw[D]
  split
  ·rename_i hm
   obtain⟨b,J⟩:=hin q hm
   obtain⟨a1,X,_⟩:=F q b J
   rw[show C.κ q=(C.r a).κ q from rfl,a1,X]
   rfl
  ·rename_i hm
   obtain⟨a1,X⟩:=B q hm v
   rw[show C.κ q=(C.r a).κ q from rfl,a1,X]
   have:(AF (Cy (Aw.map (·.1)) fr fl hs) q).g=0:=by
    rcases(M8 (fr:=fr) (fl:=fl) hs (Aw.map (·.1)) q).2 hm with⟨e,_⟩|e
    ·rw[e];exact Rq k4 q
    ·rw[e];rfl
   rw[this]
   exact hq0
 have hG2:RG (C.r a) C.l C.outs [] τ2 ⟨fun j=>ren (C.r a) (τ2.s j),CK (C.r a) Aw σ.H⟩:=by
  refine⟨fun j=>⟨fun _=>rfl,fun hn=>absurd A0 hn⟩,fun q g=>?_,fun d=>?_,fun i hi=>?_,fun q g=>?_,fun q g hn=>?_⟩
  ·show CK (C.r a) Aw σ.H ((C.r a).κ q)=AI (C.r a) q (AF (Aw++Cy (Aw.map (·.1)) fr fl hs) q)
   replace g:(AF (Aw++Cy (Aw.map (·.1)) fr fl hs) q).live=true:=g
   rw[D]at g⊢
   split at g
   ·grind
   ·rename_i hm
    rw[Yr hm]
    rcases(M8 (fr:=fr) (fl:=fl) hs (Aw.map (·.1)) q).2 hm with⟨e,e'⟩|e
    ·rw[e]at g⊢
     have v:=z.k q g
     have t:Bx C.outs q=true:=by
      obtain⟨q1,q2⟩:=q
      simp only at v
      simp only[Bx,Yj,Ya]
      rcases v with rfl|⟨rfl,h2⟩
      ·exact .inl rfl
      ·exact .inr ⟨rfl,mC h2⟩
     obtain⟨a1,X⟩:=B q hm t
     rw[a1]
     have J:=z.h q g
     have G:Am (C.r a) (AF hs q).cells=Am (C.r γ) (AF hs q).cells:=by
      rcases e' with e'|e'
      ·rw[Gq (fT hfl q e'),Gq (fT hfl q e')]
      ·exact Ko (r:=C.r γ) N _ e'
     show σ.H ((C.r γ).κ q)=_
     rw[J]
     simp only[AI]
     rw[G,show(C.r a).γ q=a q from rfl,X]
     rfl
    ·rw[e]at g;cases g
  ·have:=K (1,d) rfl (by
    have:=z.g d
    rw[show((Ab ss hs).H (1,d)).g=0 from Rq k4 _]at this
    rw[hC.own];exact this)
   rw[hC.own]at this
   exact this
  ·exact K (0,i) (by simp only[Bx,Yj,Ya];exact .inr ⟨rfl,mC hi⟩) (by
    have:=z.go i hi
    rw[show((Ab ss hs).H (0,i)).g=0 from Rq k4 _]at this
    exact this)
  ·replace g:(AF (Aw++Cy (Aw.map (·.1)) fr fl hs) q).live=true:=g
   rw[D]at g
   split at g
   ·rename_i hm
    obtain⟨b,J⟩:=hin q hm
    exact Fl (F q b J).2.2.1
   ·rename_i hm
    rcases(M8 (fr:=fr) (fl:=fl) hs (Aw.map (·.1)) q).2 hm with⟨e,e'⟩|e
    ·rw[e]at g;exact z.k q g
    ·rw[e]at g;cases g
  ·show CK (C.r a) Aw σ.H q=C.H0 q
   rw[Rb _ _ _ fun p E e=>?_]
   ·exact z.o q g hn
   ·by_cases Z:p.1.1=1
    ·obtain⟨⟨p1,p2⟩,p3⟩:=p
     simp only at Z
     subst Z
     rw[show(C.r a).κ (1,p2)=(C.l+1,p2)from hC.own p2]at e
     grind
    ·exact hn (by rw[←e];exact jv H p E Z)
 refine h a _ Y w' (hC.G γ a (fun i hi=>N _ fun hm=>?_) hg) hG2 (R.weaken O fun j=>?_)
 ·have:=Yy.1 k3 _ hm
  simp only[Yk,Yg]at this
  rcases this with h|h
  ·cases h
  ·have:(C.fx.any (Nat.beq i))=true:=YW.2 ⟨i,hi,by simp⟩
   grind
 ·have old:ren (C.r a) (AM (DD fr ss) j)=σ.s j∨ren (C.r a) (AM (DD fr ss) j)=.top:=by
   rcases wW (fr:=fr) ss j with e|⟨e,e'⟩
   ·right;rw[e];simp[ren]
   ·left
    rw[e,hs' j]
    exact vJ (r:=C.r γ) N _ e'
  show ren (C.r a) (AM (F7 l x (DD fr ss)) j)=_∨ren (C.r a) (AM (F7 l x (DD fr ss)) j)=.top
  cases l with
  |none=>exact old
  |some d=>
   simp only[F7,AM,sD,upd]
   cases hj:Nat.beq d j with
   |true=>
    have:=Yc hj
    grind
   |false=>
    have:j≠d:=fun e=>by rw[e]at hj;simp at hj
    grind
theorem ZC5(D:CxOk C){os:Nat}{fx:List Nat}(F:C.outs=os)(E:C.fx=fx){c:Code}{k:Nat}{ss:List (Nat×AV)}{hs:List (Ac×Blk)}(e:Option Nat)(l:Operand)(j:List Operand)(q:FT c k=some (e,l,j))
  (f:FuncId) (first d xs:List AV) (G:ev (AM ss) l=.fn (.func f) first d) (t:first++j.map (ev (AM ss))++d=xs) (ks:List Ac) (m:List (Ac×Blk)) (p:(ks.map fun k=>(k,AF hs k))=m)
  (x:AV) (Aw:List (Ac×Blk)) (fr fl:List Ac) (i:(C4 os Aw&&J8 fr Aw&&K2 fr fx&&GB hs&&Li n e&&ks.all (Bx os))=true) (s:ED C Aw) (o:HV (AF hs) fl)
  (g:∀r:Ren,r.θ=C.θ→r.H0=C.H0→r.κ=C.κ→r.no=C.no→GA P C.l r f xs m x Aw fr)
  (h:LO P n C c (k+1) (Ab (F7 e x (DD fr ss)) (Aw++Cy (Aw.map (·.1)) fr fl hs)) Q):LO P n C c k (Ab ss hs) Q:=by
 simp only[Ya]at i
 obtain⟨⟨⟨⟨⟨I,J⟩,K⟩,L⟩,M⟩,N⟩:=i
 exact ZwT D F E e l j q f first d xs G t ks m p (ι:=Unit) (fun _=>True) (fun _=>x) (fun _=>Aw) fr fl (by simp only[Ya];exact⟨⟨⟨K,L⟩,M⟩,N⟩) (fun _=>by simp only[Ya];exact⟨I,J⟩) (fun _=>s) o
  (fun r w z A B u a b=>(g r w z A B u a b).mono fun y v H=>⟨(),trivial,H⟩) fun _ _=>h
end
def Du(l:Nat)(ks:List Ac):Ac→Ac
 |(0,i)=>match Bj ks i with|some k=>k|none=>(0,0)
 |(_+1,d)=>(l+1,d)
def F9(a:List Nat):Ac→Nat
 |(0,i)=>match Bj a i with|some g=>g|none=>0
 |(_+1,_)=>0
def BV(l:Nat)(ks:List Ac)(a:List Nat)(θ:Nat→AV)(H:Hp):Ren:=⟨Du l ks,F9 a,θ,H,fun k=>k∈ks⟩
def G3(l:Nat)(ks:List Ac)(a:List Nat)(r:Ren):Prop:=r.κ=Du l ks∧∀i,i<ks.length→r.γ (0,i)=F9 a (0,i)
def Ck(r:Ren):Nat→List Blk→List Blk
 |_,[]=>[]
 |i,b::a=>AI r (0,i) b::Ck r (i+1) a
def C5(H:Hp):List Ac→List Blk→Hp
 |k::ks,b::a=>C5 (updH H k b) ks a
 |_,_=>H
theorem Kw{r:Ren}{k:Ac}{g:Nat}{e:TypeId}{sz:Nat}{cs:List AV}(h:Fo cs):AI r k ⟨g,true,e,sz,cs⟩=⟨r.γ k+g,true,e,sz,cs⟩:=by
 simp only[AI,Gq h]
theorem cY:∀(ks:List Ac) (a:List Blk) (H:Hp) (q:Ac),q∉ks→C5 H ks a q=H q
 |[],a,H,q,h=>by cases a<;>rfl
 |k::ks,[],H,q,h=>rfl
 |k::ks,b::a,H,q,h=>by
  simp only[C5]
  rw[cY ks a _ q (fun hm=>h (YS _ hm)),AG _ _ (fun e=>h (by rw[e];exact Y1 ..))]
theorem yb:∀(ks:List Ac) (a:List Blk) (H:Hp),ks.Nodup→∀(j:Nat) (k:Ac) (b:Blk),ks[j]?=some k→a[j]?=some b→C5 H ks a k=b
 |[],a,H,_,j,k,b,h,_=>by simp at h
 |q::ks,[],H,_,_,_,_,_,h=>by simp at h
 |q::ks,c::a,H,e,j,k,b,d,hb=>by
  simp only[C5]
  rw[List.nodup_cons]at e
  cases j with
  |zero=>
   simp only[Y7,Yq]at d hb
   subst d;subst hb
   rw[cY ks a _ _ e.1,AN]
  |succ j=>
   simp only[Im]at d hb
   exact yb ks a _ e.2 j k b d hb
theorem w8{r:Ren}:∀(a:List Blk) (i j:Nat),(Ck r i a)[j]?=(a[j]?).map (AI r (0,i+j))
 |[],i,j=>by simp[Ck]
 |b::a,i,0=>by simp[Ck]
 |b::a,i,j+1=>by
  simp only[Ck,Im,w8 a (i+1) j,show i+1+j=i+(j+1)from by omega]
theorem vd{P:Program}{T:Nat→Option TI}{n:Nat}{f:FuncId}{fn:Func}(J:List ResultVar)(c:Code){l:Nat}{xs:List AV}{H:Hp}{g:AV→Hp→Prop}(ks:List Ac)(t:List Nat)(fx:List Nat)(θ:Nat→AV)(ys:List AV)(hs:List (Ac×Blk))(LPost:AV→List Blk→Prop)
  (V:P.funcs[f]?=some fn) (hb:fn.body=some c) (s:(fn.name== "runtime.NumGoroutine")=false) (Z:fn.ntmps=n) (hr:fn.results.toList=J) (hx:xs.length≤n) (S:A7 P T)
  (D:∀k∈ks,k.1≤l) (u:ks.Nodup) (W:∀d,AF hs (1,d)=Et) (F:∀k,(AF hs k).live=true→k.1=0∧k.2<ks.length)
  (R:∀i k,ks[i]?=some k→(H k).g=F9 t (0,i)+(AF hs (0,i)).g∧((AF hs (0,i)).live=true→H k=AI (BV l ks t θ H) (0,i) (AF hs (0,i))))
  (I:Am (BV l ks t θ H) ys=xs)
  (h:∀C,CxOk C→C.outs=ks.length→C.fx=fx→C.l=l→C.H0=H→C.θ=θ→C.κ=Du l ks→C.no=(fun k=>k∈ks)→LW P n C c (Ab (Dk 0 ys) hs) (FQ T J ks.length LPost))
  (v:∀y b,LPost y b→b.length=ks.length∧(∀x∈b,x.live=true)∧∀r:Ren,r.κ=Du l ks→r.θ=θ→r.H0=H→r.no=(fun k=>k∈ks)→(∀i∈fx,r.γ (0,i)=F9 t (0,i))→g (ren r y) (C5 H ks (Ck r 0 b))):Zcq P f l xs H g:=by
 let C:Base→Cx:=fun B=>⟨l,B,Du l ks,θ,H,ks.length,fun k=>k∈ks,fx,fun γ=>∀i∈fx,γ (0,i)=F9 t (0,i)⟩
 have a:∀i,i<ks.length→ks[i]?=some (Du l ks (0,i)):=fun i hi=>by
  show _=some (match Bj ks i with|some k=>k|none=>(0,0))
  rw[BY,Yh hi]
 have E:∀(i:Nat) (k:Ac),ks[i]?=some k→i<ks.length:=fun i k hi=>by
  grind
 have K:∀B,CxOk (C B):=fun B=>by
  refine⟨fun _=>rfl,fun i hi=>D _ (Yu (a i hi)),fun i j hi Y e=>?_,fun k w=>?_,fun γ γ' he A i hi=>by rw[he i hi];exact A i hi⟩
  ·have m:=a i hi
   have o:=a j Y
   rw[show Du l ks (0,i)=Du l ks (0,j)from e]at m
   have Q:ks[i]?=ks[j]?:=m.trans o.symm
   exact(List.getElem?_inj hi u).1 Q
  ·obtain⟨i,hi⟩:=YK.1 (show k∈ks from w)
   grind
 refine w5 J C (γ:=F9 t) (LPost:=LPost) (ys:=ys) (hs:=hs) V hb s Z hr hx S K (fun B=>⟨rfl,rfl,rfl,fun i _=>rfl⟩) (fun B=>I) (fun _=>rfl) W (fun B k w=>?_) (fun B i hi=>?_) (fun B γ y b N A hy L _=>?_) (fun B=>h _ (K B) rfl rfl rfl rfl rfl rfl rfl)
 ·obtain⟨m,o⟩:=F k w
  obtain⟨k1,M⟩:=k
  simp only at m o
  subst m
  exact⟨rfl,o,(R M _ (a M o)).2 w⟩
 ·grind
 ·obtain⟨U,z,v⟩:=v y b hy
  have v:=v ((C B).r γ) rfl rfl rfl rfl fun i hi=>A i hi
  have O:N=C5 H ks (Ck ((C B).r γ) 0 b):=by
   funext q
   by_cases G:q∈ks
   ·obtain⟨i,hi⟩:=YK.1 G
    have X:=E i q hi
    have p:b[i]?=some b[i]:=Yh (by omega)
    have m:=L.live i _ p (z _ (Yu p))
    have o:Du l ks (0,i)=q:=by
     grind
    rw[show(C B).κ (0,i)=q from o]at m
    rw[m,yb ks _ H u i q (AI ((C B).r γ) (0,i) b[i]) hi]
    rw[w8,p,YP]
    rfl
   ·rw[cY ks _ H q G]
    exact L.o q G
  rw[O];exact v
theorem ZlD{P:Program}{T:Nat→Option TI}{n:Nat}{f:FuncId}{fn:Func}(w:List ResultVar)(c:Code){l:Nat}{xs:List AV}{H:Hp}{a:AV→Hp→Prop}(ks:List Ac)(e:List Nat)(fx:List Nat)(θ:Nat→AV)(ys:List AV)(hs:List (Ac×Blk))(LPost:AV→List Blk→Prop)
  (F:P.funcs[f]?=some fn) (hb:fn.body=some c) (g:(fn.name== "runtime.NumGoroutine")=false) (I:fn.ntmps=n) (J:fn.results.toList=w) (K:xs.length≤n) (D:A7 P T)
  (q:∀k∈ks,k.1≤l) (t:ks.Nodup) (p:∀i,i<ks.length→i∈fx) (G:∀d,AF hs (1,d)=Et) (s:∀k,(AF hs k).live=true→k.1=0∧k.2<ks.length)
  (B:∀i k,ks[i]?=some k→(H k).g=F9 e (0,i)+(AF hs (0,i)).g∧((AF hs (0,i)).live=true→H k=AI (BV l ks e θ H) (0,i) (AF hs (0,i))))
  (v:Am (BV l ks e θ H) ys=xs)
  (h:∀C,CxOk C→C.outs=ks.length→C.fx=fx→C.l=l→C.H0=H→C.θ=θ→C.κ=Du l ks→C.no=(fun k=>k∈ks)→LW P n C c (Ab (Dk 0 ys) hs) (FQ T w ks.length LPost))
  (u:∀y b,LPost y b→b.length=ks.length∧(∀x∈b,x.live=true)∧∃Y' bs',(∀r,G3 l ks e r→ren r y=Y')∧(∀r,G3 l ks e r→Ck r 0 b=bs')∧a Y' (C5 H ks bs')):Zcq P f l xs H a:=by
 refine vd w c ks e fx θ ys hs LPost F hb g I J K D q t G s B v h fun y b hy=>?_
 obtain⟨m,o,Y',bs',E,hB,u⟩:=u y b hy
 refine⟨m,o,fun r z _ _ _ A=>?_⟩
 have j:G3 l ks e r:=⟨z,fun i hi=>A i (p i hi)⟩
 rw[E _ j,hB _ j];exact u
theorem ZoQ{P:Program}{T:Nat→Option TI}{n:Nat}{f:FuncId}{fn:Func}(v:List ResultVar)(c:Code){l:Nat}{xs:List AV}{H:Hp}{a:AV→Hp→Prop}(ks:List Ac)(g:List Nat)(fx:List Nat)(θ:Nat→AV)(ys:List AV)(hs:List (Ac×Blk))(Y:AV)(j:List Blk){Y':AV}{bs':List Blk}
  (D:P.funcs[f]?=some fn) (hb:fn.body=some c) (e:(fn.name== "runtime.NumGoroutine")=false) (F:fn.ntmps=n) (I:fn.results.toList=v) (J:xs.length≤n) (A:A7 P T)
  (q:∀k∈ks,k.1≤l) (t:ks.Nodup) (p:∀i,i<ks.length→i∈fx) (E:∀d,AF hs (1,d)=Et) (s:∀k,(AF hs k).live=true→k.1=0∧k.2<ks.length)
  (z:∀i k,ks[i]?=some k→(H k).g=F9 g (0,i)+(AF hs (0,i)).g∧((AF hs (0,i)).live=true→H k=AI (BV l ks g θ H) (0,i) (AF hs (0,i))))
  (u:Am (BV l ks g θ H) ys=xs) (m:j.length=ks.length) (o:∀b∈j,b.live=true) (B:∀r,G3 l ks g r→ren r Y=Y') (hB:∀r,G3 l ks g r→Ck r 0 j=bs')
  (h:∀C,CxOk C→C.outs=ks.length→C.fx=fx→C.l=l→C.H0=H→C.θ=θ→C.κ=Du l ks→C.no=(fun k=>k∈ks)→LW P n C c (Ab (Dk 0 ys) hs) (FQ T v ks.length (fun y b=>y=Y∧b=j)))
  (G:a Y' (C5 H ks bs')):Zcq P f l xs H a:=by
 exact ZlD v c ks g fx θ ys hs (fun y b=>y=Y∧b=j) D hb e F I J A q t p E s z u h fun y b ⟨w,x⟩=>by subst w;subst x;exact⟨m,o,Y',bs',B,hB,G⟩
section
variable {P:Program} {l:Nat} {r:Ren} {f:FuncId} {xs xs':List AV} {hb Aw:List (Ac×Blk)} {x x':AV}
theorem ZwH(e:Am r xs=xs')(g:ren r x=x')(h:∀a,(∀p∈hb,(a (r.κ p.1)).g=r.γ p.1+p.2.g∧(p.2.live=true→a (r.κ p.1)=AI r p.1 p.2))→(∀k:Ac,k.1≤l→¬r.no k→a k=r.H0 k)→Zcq P f (l+1) xs' a (fun y b=>y=x'∧b=CK r Aw a)):
  GA P l r f xs hb x Aw []:=fun a hb i=>by
 rw[e]
 exact(h a hb i).mono fun y b ⟨c,d⟩=>⟨r.γ,fun _ _=>rfl,by rw[c,←g],d⟩
end
theorem xc{α:Type}{e:α→List D}{r:Ren}{k:Ac}(xs:List α):EW r k (Ae e xs):=by
 unfold EW
 rw[Gq (AW e xs)]
 refine Yy.2 fun x a=>?_
 obtain⟨d,_,rfl⟩:=Y0.1 a
 rfl
theorem xJ{r:Ren}{k:Ac}{vs:List AV}(h:(Am r vs).all (AV.low (r.κ k).1)=true):EW r k vs:=h
theorem nA{r:Ren}{k:Ac}(ds:List D):EW r k (ds.map .d):=by
 unfold EW
 rw[Gy]
 refine Yy.2 fun x a=>?_
 obtain⟨d,_,rfl⟩:=Y0.1 a
 rfl
theorem vq{α:Type}(e:α→List D)(xs:List α):EI (Ae e xs):=fun x a=>by
 obtain⟨d,_,rfl⟩:=Y0.1 a;rfl
theorem Zyx{α:Type}{e:α→List D}{xs:List α}{off cn sz:Nat}{z:List AV}(hl:∀x,(e x).length=sz)(h:off+cn≤xs.length):
  aa (Ae e xs) off cn sz z ((Ae e xs).take (off*sz)++(List.replicate cn z).flatten++(Ae e xs).drop ((off+cn)*sz)):=by
 refine⟨?_,rfl⟩
 rw[Df hl]
 exact YY _ h
theorem ZxT{α:Type}{e:α→List D}{xs:List α}{off sz:Nat}{A B:List AV}(hl:∀x,(e x).length=sz)(h:off≤xs.length):∃m,((Ae e xs).take (off*sz)++A++B).take m=Ae e (xs.take off):=by
 refine⟨off*sz,?_⟩
 have a:((Ae e xs).take (off*sz)).length=off*sz:=by
  rw[YF,Df hl]
  exact G8 (YY _ h)
 rw[Eg,UK (by omega),OP (by omega),RB hl]
def Hi(n:Nat):List (Ac×Blk)→Bool
 |[]=>true
 |(k,_)::r=>Nat.beq k.1 0&&Nat.ble (k.2+1) n&&Hi n r
theorem ey{n:Nat}:∀{hs:List (Ac×Blk)},Hi n hs=true→∀k,(AF hs k).live=true→k.1=0∧k.2<n
 |[],_,k,h=>by simp[AF,Et]at h
 |(q,b)::r,hi,k,h=>by
  simp only[Hi,Ya]at hi
  simp only[AF]at h
  split at h
  ·rename_i a
   have a:=B3.1 a
   subst a
   exact⟨Yc hi.1.1,Yo hi.1.2⟩
  ·exact ey hi.2 k h
theorem dv{n:Nat}:∀{hs:List (Ac×Blk)},Hi n hs=true→∀d,AF hs (1,d)=Et
 |[],_,d=>rfl
 |(q,b)::r,hi,d=>by
  simp only[Hi,Ya]at hi
  simp only[AF]
  split
  ·rename_i a
   have a:=B3.1 a
   subst a
   have:=Yc hi.1.1
   grind
  ·exact dv hi.2 d
def H8(H:Hp)(r:Ren)(hs:List (Ac×Blk)):Nat→List Ac→Prop
 |_,[]=>True
 |i,k::ks=>((H k).g=r.γ (0,i)+(AF hs (0,i)).g∧((AF hs (0,i)).live=true→H k=AI r (0,i) (AF hs (0,i))))∧H8 H r hs (i+1) ks
theorem ie{H:Hp}{r:Ren}{hs:List (Ac×Blk)}:∀{ks:List Ac} {i:Nat},H8 H r hs i ks→∀j k,ks[j]?=some k→(H k).g=r.γ (0,i+j)+(AF hs (0,i+j)).g∧((AF hs (0,i+j)).live=true→H k=AI r (0,i+j) (AF hs (0,i+j)))
 |[],i,_,j,k,h=>by simp at h
 |q::ks,i,h,0,k,a=>by
  simp only[Y7,Yq]at a
  subst a
  exact h.1
 |q::ks,i,h,j+1,k,a=>by
  have:=ie h.2 j k (by simpa using a)
  grind
def Hr(l:Nat):List Ac→Prop
 |[]=>True
 |k::ks=>k.1≤l∧Hr l ks
theorem RI{l:Nat}:∀{ks:List Ac},Hr l ks→∀k∈ks,k.1≤l
 |q::ks,h,k,a=>by
  rcases YM.1 a with rfl|a
  ·exact h.1
  ·exact RI h.2 k a
def HQ:Nat→List Nat
 |0=>[]
 |n+1=>HQ n++[n]
theorem Ru:∀{n i:Nat},i<n→i∈HQ n
 |n+1,i,h=>by
  simp only[HQ,Ii,O7]
  rcases YH i n with a|a
  ·exact .inl (Ru a)
  grind
theorem ZlI{P:Program}{T:Nat→Option TI}{n:Nat}{f:FuncId}{fn:Func}(u:List ResultVar)(c:Code){l:Nat}{xs:List AV}{H:Hp}{a:AV→Hp→Prop}(ks:List Ac)(g:List Nat)(os:Nat)(θ:Nat→AV)(ys:List AV)(hs:List (Ac×Blk))(Y:AV)(e:List Blk){Y':AV}{bs':List Blk}
  (z:P.funcs[f]?=some fn) (hb:fn.body=some c) (d:(fn.name== "runtime.NumGoroutine")=false) (B:fn.ntmps=n) (E:fn.results.toList=u) (F:xs.length≤n) (w:A7 P T) (s:ks.length=os)
  (p:Hr l ks) (q:ks.Nodup) (j:Hi os hs=true) (v:H8 H (BV l ks g θ H) hs 0 ks) (t:Am (BV l ks g θ H) ys=xs) (m:e.length=os) (o:∀b∈e,b.live=true) (x:∀r,G3 l ks g r→ren r Y=Y') (hB:∀r,G3 l ks g r→Ck r 0 e=bs')
  (h:∀C,CxOk C→C.outs=os→C.fx=HQ os→C.l=l→C.H0=H→C.θ=θ→C.κ=Du l ks→C.no=(fun k=>k∈ks)→LW P n C c (Ab (Dk 0 ys) hs) (FQ T u os (fun y b=>y=Y∧b=e)))
  (D:a Y' (C5 H ks bs')):Zcq P f l xs H a:=by
 subst s
 exact ZoQ u c ks g (HQ ks.length) θ ys hs Y e z hb d B E F w (RI p) q (fun i hi=>Ru hi) (dv j) (ey j) (fun i k A=>by have:=ie v i k A;rw[YP]at this;exact this) t m o x hB h D
theorem Zou{α:Type}{e e':α→List D}{xs:List α}{j sz:Nat}{x:α}(b:xs[j]?=some x)(hl:∀x,(e x).length=sz)(he:∀x,e x=e' x):DB (Ae e xs) (j*sz) ((e' x).map .d):=by
 have a:j<xs.length:=by
  grind
 have:=vh (z:=x) a hl he
 grind
theorem ZET{P:Program}{l o:Nat}{no b:Ac→Prop}{H j:Hp}{c:AV}{m:List AV}{y:AV}(h:Cg P l no H c m y)(hl:l≤o)(i:∀q:Ac,q.1≤l→¬no q→¬b q)(r:∀q:Ac,q.1≤l→¬no q→j q=H q):Cg P o b j c m y:=by
 obtain⟨f,first,a,e,h⟩:=h
 exact⟨f,first,a,e,fun t p g s=>h t p (DR hl g) fun k d n=>by rw[s k (DR d hl) (i k d n),r k d n]⟩
def ZJO:Code→Operand
 |.cond o _ _=>o
 |_=>.tmp 0
def ET(c:Code)(k:Nat):Option Nat:=match FT c k with|some (d,_,_)=>d|none=>none
def callF(c:Code)(k:Nat):Operand:=match FT c k with|some (_,f,_)=>f|none=>.tmp 0
def FV(c:Code)(k:Nat):List Operand:=match FT c k with|some (_,_,xs)=>xs|none=>[]
theorem wA{P:Program}{n:Nat}{C:Cx}{Q:Exit→St→Prop}(m:CxOk C){os:Nat}{fx:List Nat}(p:C.outs=os)(o:C.fx=fx){c:Code}{k:Nat}{ss:List (Nat×AV)}{hs:List (Ac×Blk)}
  (f:FuncId) (first a xs:List AV) (i:FT c k=some (ET c k,callF c k,FV c k)) (q:ev (AM ss) (callF c k)=.fn (.func f) first a) (l:first++(FV c k).map (ev (AM ss))++a=xs) (ks:List Ac) (hb:List (Ac×Blk)) (e:(ks.map fun k=>(k,AF hs k))=hb)
  (x:AV) (Aw:List (Ac×Blk)) (fr fl:List Ac) (g:(C4 os Aw&&J8 fr Aw&&K2 fr fx&&GB hs&&Li n (ET c k)&&ks.all (Bx os))=true) (j:ED C Aw) (d:HV (AF hs) fl)
  (b:∀r:Ren,r.θ=C.θ→r.H0=C.H0→r.κ=C.κ→r.no=C.no→GA P C.l r f xs hb x Aw fr)
  (h:LO P n C c (k+1) (Ab (F7 (ET c k) x (DD fr ss)) (Aw++Cy (Aw.map (·.1)) fr fl hs)) Q):LO P n C c k (Ab ss hs) Q:=
 ZC5 m p o _ _ _ i f first a xs q l ks hb e x Aw fr fl g j d b h
end Go.Eng
namespace Go.Eng
open Go
set_option linter.all false
end Go.Eng
namespace Go.Eng
set_option linter.all false
open Go Go.RowKit Go.Shelf
theorem xA{α:Type}{e:α→List D}{xs:List α}{l h:Nat}(q:Ee l h xs.length):Ee l h (xs.map e).length:=by rw[YL];exact q
theorem ZFW{α:Type}{e:α→List D}{xs:List α}{sz:Nat}(he:∀x,(e x).length=sz):∀d,d∈xs.map e→d.length=sz:=fun d h=>by
 grind
theorem xY{α:Type}{e:α→List D}{xs:List α}{sz l h:Nat}(he:∀x,(e x).length=sz):LN (xs.map e) sz l h (((xs.drop l).take (h-l)).map e):=
 ⟨ZFW he,by rw[←List.map_drop,←List.map_take]⟩
theorem Zt8{i:Int}{len sz:Nat}(a:0≤i)(h:i<len):J4 i len 0 sz (i.toNat*sz):=⟨a,h,by simp⟩
theorem Zxa{α:Type}{e:α→List D}{xs:List α}{j sz a:Nat}{z y:α}{vs:List D}(b:j<xs.length)(hl:∀x,(e x).length=sz)(h:a+vs.length≤sz)(he:e y=(e (xs.getD j z)).take a++vs++(e (xs.getD j z)).drop (a+vs.length)):
  G4 (Ae e xs) (j*sz+a) (vs.map .d) (Ae e (xs.set j y)):=by
 have d:(j+1)*sz≤xs.length*sz:=YY _ b
 rw[YZ,JH]at d
 refine⟨by rw[YL,Df hl];omega,?_⟩
 have f:xs.getD j z=xs[j]:=by rw[YG,Yh b];rfl
 rw[f]at he
 have hs:Ae e xs=Ae e (xs.take j)++((e xs[j]).map .d++Ae e (xs.drop (j+1))):=by
  conv=>lhs;rw[←Ia j xs,Ik b,KD,FO]
 have c:(Ae e (xs.take j)).length=j*sz:=by rw[Df hl,YF,G8 (by omega)]
 have g:((e xs[j]).map AV.d).length=sz:=by rw[YL,hl]
 rw[hs,List.take_append,OP (by omega:(Ae e (xs.take j)).length≤j*sz+a),c,show j*sz+a-j*sz=a from by omega,UK (by omega),
  List.drop_append,mr (by rw[c];omega),c,G9,show j*sz+a+(vs.map AV.d).length-j*sz=a+vs.length from by rw[YL];omega,my (by omega),
  mu,Ys b,KD,FO,he]
 simp only[OY,List.map_take,List.map_drop,Eg]
end Go.Eng
namespace Go.Eng
set_option linter.all false
theorem Rv{α:Type}{l:List α}{p:α→Bool}:((match l.findIdx? p with|some k=>(k:Int)|none=>-1)≥0)↔l.any p=true:=by
 rw[YW]
 cases h:l.findIdx? p with
 |none=>
  rw[UV]at h
  constructor
  ·intro e;exact absurd e (by decide)
  ·rintro⟨x,d,a⟩;rw[h x d]at a;cases a
 |some k=>
  obtain⟨b,c,_⟩:=JE.1 h
  exact⟨fun _=>⟨l[k],Ma b,c⟩,fun _=>Int.natCast_nonneg k⟩
theorem Zya{α:Type}{e e':α→List D}{xs:List α}{j sz:Nat}{y:α}(a:j<xs.length)(hl:∀x,(e x).length=sz)(he:∀x,e x=e' x):G4 (Ae e xs) (j*sz) ((e' y).map .d) (Ae e (xs.set j y)):=by
 rw[←he];exact ZBQ a hl
theorem wt{α:Type}{sz:Nat}{e e':α→List D}{y:α}(C:List AV)(hl:∀x,(e x).length=sz)(he:∀x,e x=e' x):D4 sz C (.d (.list [e' y])) 1 (Ae e [y]):=by
 rw[ZvI,he];exact Zv0 C (by rw[←he];exact hl y)
theorem ZHu{C:List AV}{o n m sz:Nat}{es:List (List D)}(h:n=m)(k:G1 C o m sz es):G1 C o n sz es:=h▸k
theorem ZDl{α:Type}{e:α→List D}{xs:List α}{n m off sz:Nat}(a:n=m)(h:off≤xs.length)(hl:∀x,(e x).length=sz):n=m∧off*sz≤(Ae e xs).length∧(Ae e xs).drop (off*sz)=Ae e (xs.drop off):=
 ⟨a,by rw[Df hl];exact YY _ h,Ku hl xs off⟩
theorem ZCI{α:Type}{e:α→List D}{z:α}{c:List AV}(a:(e z).map .d=c)(m:Nat):(List.replicate m c).flatten=Ae e (List.replicate m z):=by
 subst a
 induction m with
 |zero=>rfl
 |succ m b=>rw[UO,Ie,b,UO,FO]
end Go.Eng
namespace Go.Eng
set_option linter.all false
open Go Go.RowKit
section
variable {P:Program} {T:Nat→Option TI} {n:Nat} {C:Cx} {τ:St} {Q:Exit→St→Prop}
theorem ZGW(f:CxOk C){os:Nat}{fx:List Nat}(k:C.outs=os)(i:C.fx=fx){c:Code}(a:AT)(lf:Lf)(q:Ren→(St→Prop)→Prop)
  (m:∀r Φ,Bf r os a τ (fun τ _=>ER fx lf τ Φ)=q r Φ) (h:∀r,r.θ=C.θ→r.H0=C.H0→r.κ=C.κ→r.no=C.no→q r (fun τ'=>LW P n C c τ' Q)):LW P n C c τ Q:=by
 subst k
 subst i
 intro γ σ l j
 have e:=h (C.r γ) rfl rfl rfl rfl
 rw[←m]at e
 obtain⟨y,w,x,g,b,d⟩:=BX (n:=n) f a e j
 obtain⟨u,z,v,o,p,s,t⟩:=Gp (n:=n) f g l b
 exact Bz.weak (p u v o s) (d.trans t)
end
theorem xg{s:ByteArray}{i:Int}(a:0≤i)(h:i<s.size):Hk s i ((s.data.toList.getD i.toNat 0).toNat:Int):=by
 have:=ya (s:=s) (i:=i.toNat) (by omega)
 rwa [Int.toNat_of_nonneg a]at this
end Go.Eng
