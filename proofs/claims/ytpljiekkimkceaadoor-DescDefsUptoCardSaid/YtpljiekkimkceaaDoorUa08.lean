import Derived.Test.YtpljiekkimkceaaDoorUa07
import Derived.Shelf.Spec.SlicesGrow
import Derived.Test.YtpljiekkimkceaaDoorUa00
namespace Go.Eng
structure Raw where
 num:Int
 wire:Int
 bits:Int
 data:ByteArray
deriving Inhabited,DecidableEq
mutual
inductive Val where
 |mk (kind bits:Int) (text:ByteArray) (list:List Val) (pairs:List Pr) (slots:List Slt) (raws:List Raw)
inductive Pr where
 |mk (key val:Val)
inductive Slt where
 |mk (num:Int) (val:Val)
end
inductive Msk where
 |mk (num:Int) (subs:List Msk)
instance:Inhabited Val:=⟨.mk 0 0 .empty [] [] [] []⟩
instance:Inhabited Pr:=⟨.mk default default⟩
instance:Inhabited Slt:=⟨.mk 0 default⟩
instance:Inhabited Msk:=⟨.mk 0 []⟩
def Val.kind:Val→Int|.mk k _ _ _ _ _ _=>k
def Val.bits:Val→Int|.mk _ b _ _ _ _ _=>b
def Val.text:Val→ByteArray|.mk _ _ t _ _ _ _=>t
def Val.list:Val→List Val|.mk _ _ _ l _ _ _=>l
def Val.pairs:Val→List Pr|.mk _ _ _ _ p _ _=>p
def Val.slots:Val→List Slt|.mk _ _ _ _ _ s _=>s
def Val.raws:Val→List Raw|.mk _ _ _ _ _ _ r=>r
def Pr.key:Pr→Val|.mk k _=>k
def Pr.val:Pr→Val|.mk _ v=>v
def Slt.num:Slt→Int|.mk n _=>n
def Slt.val:Slt→Val|.mk _ v=>v
def Msk.num:Msk→Int|.mk n _=>n
def Msk.subs:Msk→List Msk|.mk _ s=>s
def Ar(s:ByteArray):List D:=[.str s]
def VT(s:Int):List D:=[.int .i64 s]
def WK(s:Bool):List D:=[.bool s]
def Dz(x:Raw):List D:=[.int .i64 x.num,.int .i64 x.wire,.int .u64 x.bits,.str x.data]
mutual
def B9:Val→List D
 |.mk k b t l p s r=>[.int .i64 k,.int .u64 b,.str t,.list (Io l),.list (Iy p),.list (Iq s),.list (r.map Dz)]
def Io:List Val→List (List D)
 |[]=>[]
 |v::vs=>B9 v::Io vs
def CN:Pr→List D
 |.mk k v=>B9 k++B9 v
def Iy:List Pr→List (List D)
 |[]=>[]
 |v::vs=>CN v::Iy vs
def CJ:Slt→List D
 |.mk n v=>.int .i64 n::B9 v
def Iq:List Slt→List (List D)
 |[]=>[]
 |v::vs=>CJ v::Iq vs
end
mutual
def GY:Msk→List D
 |.mk n s=>[.int .i64 n,.list (Im s)]
def Im:List Msk→List (List D)
 |[]=>[]
 |v::vs=>GY v::Im vs
end
theorem Ss(l:List Val):Io l=l.map B9:=by induction l with|nil=>rfl|cons v l a=>simp[Io,a]
theorem SN(l:List Pr):Iy l=l.map CN:=by induction l with|nil=>rfl|cons v l a=>simp[Iy,a]
theorem Sw(l:List Slt):Iq l=l.map CJ:=by induction l with|nil=>rfl|cons v l a=>simp[Iq,a]
theorem Sc(l:List Msk):Im l=l.map GY:=by induction l with|nil=>rfl|cons v l a=>simp[Im,a]
def B8(x:Val):List D:=[.int .i64 x.kind,.int .u64 x.bits,.str x.text,.list (x.list.map B9),.list (x.pairs.map CN),.list (x.slots.map CJ),.list (x.raws.map Dz)]
def Lx(x:Pr):List D:=[.int .i64 x.key.kind,.int .u64 x.key.bits,.str x.key.text,.list (x.key.list.map B9),.list (x.key.pairs.map CN),.list (x.key.slots.map CJ),.list (x.key.raws.map Dz),.int .i64 x.val.kind,.int .u64 x.val.bits,.str x.val.text,.list (x.val.list.map B9),.list (x.val.pairs.map CN),.list (x.val.slots.map CJ),.list (x.val.raws.map Dz)]
def Lp(x:Slt):List D:=[.int .i64 x.num,.int .i64 x.val.kind,.int .u64 x.val.bits,.str x.val.text,.list (x.val.list.map B9),.list (x.val.pairs.map CN),.list (x.val.slots.map CJ),.list (x.val.raws.map Dz)]
def PX(x:Msk):List D:=[.int .i64 x.num,.list (x.subs.map GY)]
theorem H6(v:Val):B9 v=B8 v:=by
 cases v;simp[B9,B8,Ss,SN,Sw,Val.kind,Val.bits,Val.text,Val.list,Val.pairs,Val.slots,Val.raws]
theorem OI(v:Pr):CN v=Lx v:=by cases v;simp[CN,H6,B8,Lx,Pr.key,Pr.val]
theorem Oq(v:Slt):CJ v=Lp v:=by cases v;simp[CJ,H6,B8,Lp,Slt.num,Slt.val]
theorem WJ(v:Msk):GY v=PX v:=by cases v;simp[GY,PX,Sc,Msk.num,Msk.subs]
structure Typ where
 kind:Int
 name:ByteArray
deriving Inhabited,DecidableEq
def VC(x:Typ):List D:=[.int .i64 x.kind,.str x.name]
structure Nt where
 name:ByteArray
 val:Val
deriving Inhabited
def AE(x:Nt):List D:=[.str x.name,.int .i64 x.val.kind,.int .u64 x.val.bits,.str x.val.text,.list (x.val.list.map B9),.list (x.val.pairs.map CN),.list (x.val.slots.map CJ),.list (x.val.raws.map Dz)]
structure Fld where
 num:Int
 name:ByteArray
 card:Int
 key:Int
 type:Typ
 union:ByteArray
 hasDefault:Bool
 dflt:Val
 notes:List Nt
deriving Inhabited
def AM(x:Fld):List D:=[.int .i64 x.num,.str x.name,.int .i64 x.card,.int .i64 x.key,.int .i64 x.type.kind,.str x.type.name,.str x.union,.bool x.hasDefault,.int .i64 x.dflt.kind,.int .u64 x.dflt.bits,.str x.dflt.text,.list (x.dflt.list.map B9),.list (x.dflt.pairs.map CN),.list (x.dflt.slots.map CJ),.list (x.dflt.raws.map Dz),.list (x.notes.map AE)]
structure Spn where
 lo:Int
 hi:Int
deriving Inhabited,DecidableEq
def BL(x:Spn):List D:=[.int .i64 x.lo,.int .i64 x.hi]
structure By where
 b:UInt8
deriving Inhabited,DecidableEq
def By.v(x:By):Int:=x.b.toNat
def WS(x:By):List D:=[.int .u8 x.v]
structure Msg where
 name:ByteArray
 fields:List Fld
 reserved:List Spn
 gone:List ByteArray
 notes:List Nt
deriving Inhabited
def Am(x:Msg):List D:=[.str x.name,.list (x.fields.map AM),.list (x.reserved.map BL),.list (x.gone.map Ar),.list (x.notes.map AE)]
structure Itm where
 name:ByteArray
 num:Int
 notes:List Nt
deriving Inhabited
def Eb(x:Itm):List D:=[.str x.name,.int .i64 x.num,.list (x.notes.map AE)]
structure Enm where
 name:ByteArray
 opn:Bool
 items:List Itm
 reserved:List Spn
 notes:List Nt
deriving Inhabited
def Ay(x:Enm):List D:=[.str x.name,.bool x.opn,.list (x.items.map Eb),.list (x.reserved.map BL),.list (x.notes.map AE)]
structure Mth where
 name:ByteArray
 inn:ByteArray
 out:ByteArray
 shape:Int
 notes:List Nt
deriving Inhabited
def D5(x:Mth):List D:=[.str x.name,.str x.inn,.str x.out,.int .i64 x.shape,.list (x.notes.map AE)]
structure Svc where
 name:ByteArray
 methods:List Mth
 notes:List Nt
deriving Inhabited
def Aw(x:Svc):List D:=[.str x.name,.list (x.methods.map D5),.list (x.notes.map AE)]
structure Scm where
 messages:List Msg
 enums:List Enm
 services:List Svc
deriving Inhabited
def Bi(x:Scm):List D:=[.list (x.messages.map Am),.list (x.enums.map Ay),.list (x.services.map Aw)]
structure Fil where
 name:ByteArray
 space:ByteArray
 imports:List ByteArray
 messages:List Msg
 enums:List Enm
 services:List Svc
deriving Inhabited
def WL(x:Fil):List D:=[.str x.name,.str x.space,.list (x.imports.map Ar),.list (x.messages.map Am),.list (x.enums.map Ay),.list (x.services.map Aw)]
structure Prb where
 dfn:ByteArray
 num:Int
 err:Int
deriving Inhabited,DecidableEq
def WP(x:Prb):List D:=[.str x.dfn,.int .i64 x.num,.int .i64 x.err]
structure Stp where
 num:Int
 pos:Int
 hasKey:Bool
 key:Val
deriving Inhabited
structure Edt where
 path:List Stp
 kind:Int
 val:Val
deriving Inhabited
class Mv (V:Type) where
 q:Bool
 e:V→List D
 z:V
def Wq{V:Type}[Mv V](p:ByteArray×V):List D:=.str p.1::Mv.e p.2
instance:Mv (List Int):=⟨false,fun x=>[.list (x.map VT)],[]⟩
instance (V:Type) [Mv V]:Mv (List (ByteArray×V)):=⟨false,fun m=>[.map (Mv.q V) (m.map Wq)],[]⟩
structure Web where
 messages:List (ByteArray×Msg)
 enums:List (ByteArray×Bool)
deriving Inhabited
structure Lst where
 dfn:ByteArray
 l:List Prb
deriving Inhabited
structure Acs where
 m:Msg
 s:Scm
deriving Inhabited
structure Nod where
 kind:Int
 bits:Int
 text:ByteArray
 list:Int
 pairs:Int
 slots:Int
 raws:Int
deriving Inhabited,DecidableEq
structure Lnk where
 files:List Fil
 f:Fil
 known:List ByteArray
 messages:List ByteArray
 enums:List Enm
deriving Inhabited
def WN:Raw:=⟨0,0,0,⟨#[]⟩⟩
def G1:Val:=.mk 0 0 ⟨#[]⟩ [] [] [] []
def WU:Pr:=.mk G1 G1
def WQ:Slt:=.mk 0 G1
def WO:Msk:=.mk 0 []
def VQ:Typ:=⟨0,⟨#[]⟩⟩
def WI:Nt:=⟨⟨#[]⟩,G1⟩
def V8:Fld:=⟨0,⟨#[]⟩,0,0,VQ,⟨#[]⟩,false,G1,[]⟩
def Wf:Spn:=⟨0,0⟩
def WT:By:=⟨0⟩
def V3:Msg:=⟨⟨#[]⟩,[],[],[],[]⟩
def V7:Itm:=⟨⟨#[]⟩,0,[]⟩
def VA:Enm:=⟨⟨#[]⟩,false,[],[],[]⟩
def VU:Mth:=⟨⟨#[]⟩,⟨#[]⟩,⟨#[]⟩,0,[]⟩
def VD:Svc:=⟨⟨#[]⟩,[],[]⟩
def WM:Fil:=⟨⟨#[]⟩,⟨#[]⟩,[],[],[],[]⟩
def WR:Prb:=⟨⟨#[]⟩,0,0⟩
end Go.Eng
namespace Go.Eng
set_option linter.all false
open Go Go.RowKit
def DA:List Nat→Code→Code
 |[],c=>c
 |0::p,.seq a _=>DA p a
 |_::p,.seq _ b=>DA p b
 |0::p,.cond _ a _=>DA p a
 |_::p,.cond _ _ b=>DA p b
 |_::p,.block _ c=>DA p c
 |_::p,.loop c=>DA p c
 |_::p,.scope c=>DA p c
 |_,c=>c
def AH(f:Func):Code:=f.body.getD .skip
def An{α:Type}(e:α→List D)(xs:List α):List AV:=((xs.map e).flatten).map .d
theorem EX{α:Type}(e:α→List D)(xs:List α):Dr (An e xs):=fun x a=>by
 obtain⟨d,_,rfl⟩:=YD.1 a;rfl
theorem Ku{α:Type}{e:α→List D}{sz:Nat}(he:∀x,(e x).length=sz)(xs:List α):(An e xs).length=xs.length*sz:=by
 unfold An
 induction xs with
 |nil=>simp
 |cons x xs a=>simp only[Ym,YK,El,Ys,he,YQ,YF]at a⊢;omega
theorem Ty{α:Type}(e:α→List D)(xs ys:List α):An e (xs++ys)=An e xs++An e ys:=by simp[An]
section
variable {P:Program} {n:Nat} {C:Cx} {τ:St} {Q:Exit→St→Prop}
theorem SW{c:Code}(id:Nat)(x:Code)(b:c=.block id x)(h:LW P n C x τ (fun e τ'=>match e with|.exit i=>(match Nat.beq i id with|true=>Q .normal τ'|false=>Q (.exit i) τ')|e=>Q e τ')):LW P n C c τ Q:=b▸S4 (h.mono fun e τ' a=>by
 cases e with
 |exit i=>
  simp only at a⊢
  split at a
  ·rename_i he;rw[Yt (Ya he)];exact a
  ·rename_i he;rw[Yy (by rintro rfl;simp at he)];exact a
 |_=>exact a)
end
theorem Rz{P:Program}{T:Nat→Option TI}{n:Nat}{f:FuncId}{fn:Func}(e:List ResultVar)(c:Code){l:Nat}{xs:List AV}{H:Hp}{a:AV→Hp→Prop}(θ:Nat→AV)(ys:List AV)
  (j:P.funcs[f]?=some fn) (hb:fn.body=some c) (b:(fn.name== "runtime.NumGoroutine")=false) (o:fn.ntmps=n) (r:fn.results.toList=e) (s:xs.length≤n) (g:AG P T)
  (d:Ab ⟨fun k=>(l+1,k.2),fun _=>0,θ,H,fun _=>False⟩ ys=xs) (h:∀B:Base,LW P n (IP l θ H B) c (Ac (BJ 0 ys) []) (FQ T e 0 (fun y _=>a y H))):ZaR P f l xs H a:=
 NG e (IP l θ H) (γ:=fun _=>0) (LPost:=fun y _=>a y H) j hb b o r s g (fun B=>Nm l B θ H) (fun B=>⟨rfl,rfl,rfl,trivial⟩) (fun B=>d) (fun _=>rfl) (fun _=>rfl) (fun B k m=>by simp[Ae,Ck]at m) (fun B i hi=>absurd hi (Hv _))
  (fun B γ y u t _ q p hy=>by rw[hy rfl,SB p];exact q) h
theorem Uf{α:Type}(e:α→List D)(xs:List α):AK ((xs.map e).length:Nat) xs.length:=by simp[AK]
theorem Og{α:Type}{e e':α→List D}{xs:List α}{i:Nat}{x:α}(a:xs[i]?=some x)(he:∀x,e x=e' x):D8 (xs.map e) (i:Nat) (e' x):=⟨by omega,by simp[a,he]⟩
theorem UH{α:Type}{e e':α→List D}{xs:List α}{i:Nat}{z:α}(hi:i<xs.length)(he:∀x,e x=e' x):D8 (xs.map e) (i:Nat) (e' (xs.getD i z)):=by
 refine Og ?_ he
 grind
theorem OB{a r:Int}(h:a=r)(b: -9223372036854775808≤r)(c:r<9223372036854775808):A7 .i64 a r:=by
 subst h;exact IntWalk.i64_in _ ⟨b,by omega⟩
theorem Tp{sz:Nat}{e:List D}(C:List AV)(he:e.length=sz):CI sz C (.d (.list [e])) 1 (e.map .d):=by
 refine⟨Yo.2 fun x a=>?_,fun q b=>?_,rfl,by simp⟩
 ·obtain⟨d,_,rfl⟩:=YD.1 a;rfl
 grind
theorem Sd{α:Type}{sz:Nat}{e:α→List D}(C:List AV)(xs:List α)(he:∀x,(e x).length=sz):CI sz C (.d (.list (xs.map e))) xs.length (An e xs):=by
 refine⟨Yo.2 fun x a=>?_,fun q b=>?_,by simp,rfl⟩
 ·obtain⟨d,_,rfl⟩:=YD.1 a;rfl
 grind
theorem Tz{α:Type}{sz byt:Nat}{e:α→List D}(xs ys:List α){a:Nat}(he:∀x,(e x).length=sz)(b:xs.length+ys.length=a)(hb:a*byt≤140737488355328):
  G8 (An e xs) 0 xs.length ys.length sz byt (An e ys) (An e (xs++ys)) a:=
 ⟨by rw[Ku he,YH],by rw[Hr,List.drop_zero,Ty],b,hb⟩
theorem S9{α:Type}(e:α→List D)(x:α):An e [x]=(e x).map .d:=by simp[An]
theorem N4{α:Type}{sz:Nat}{e:α→List D}(xs:List α)(b:sz≠0)(he:∀x,(e x).length=sz):EN (An e xs) 0 xs.length sz (xs.map e):=
 ⟨by simp,b,fun q a=>by obtain⟨x,_,rfl⟩:=YD.1 a;exact he x,by rw[Ku he];simp,by rw[Hr,List.drop_zero,←Ku he xs,Ge];rfl⟩
theorem NM{α:Type}{e e':α→List D}{xs:List α}{i:Int}{z:α}(a:0≤i)(hi:i<xs.length)(he:∀x,e x=e' x):D8 (xs.map e) i (e' (xs.getD i.toNat z)):=by
 have h:=UH (e:=e) (e':=e') (xs:=xs) (i:=i.toNat) (z:=z) (by omega) he
 grind
theorem Nn{α:Type}{sz byt c:Nat}{e:α→List D}{news:List AV}(xs ys:List α)(he:∀x,(e x).length=sz)(a:ys.length=c)(b:news=An e ys)(hb:(xs.length+ys.length)*byt≤140737488355328):
  G8 (An e xs) 0 xs.length c sz byt news (An e (xs++ys)) (xs++ys).length:=by
 subst a;subst b
 exact Tz xs ys he (by rw[Ys]) (by rw[Ys];exact hb)
section
variable {P:Program} {l:Nat} {r:Ren} {f:FuncId} {xs xs':List AV} {hb:List (Aa×Blk)} {x x':AV}
def D0(P:Program)(l:Nat)(no:Aa→Prop)(H:Hp)(c:AV)(g:List AV)(y:AV):Prop:=
 ∃f first a,c=.fn (.func f) first a∧∀e b,l≤e→(∀k:Aa,k.1≤l→¬no k→b k=H k)→ZaR P f e (first++g++a) b (fun h d=>h=y∧d=b)
theorem S6{i:Nat}{c:AV}(j:r.θ i=c)(h:D0 P l r.no r.H0 c xs' x')(d:Ab r xs=xs')(e:ren r x=x'):GH P l r i xs hb x:=by
 obtain⟨f,first,a,rfl,h⟩:=h
 exact⟨f,first,a,j,fun b _ g=>by rw[d,e];exact h (l+1) b (Nat.le_succ l) g⟩
end
section
variable {P:Program} {T:Nat→Option TI} {n:Nat} {C:Cx} {τ:St} {Q:Exit→St→Prop}
theorem Ul(g:CxOk C)(k:AG P T)(hm:P.follows .mixedOrders=true){os:Nat}{fx:List Nat}(d:C.outs=os)(i:C.fx=fx){c:Code}(a:AT)(lf e:Lf)(f:List ResultVar){b:AV→List Blk→Prop}(q:Ren→(Exit→St→Prop)→(AV→List Blk→Prop)→Prop)
  (l:∀r Q b,A8 P T C.l n os r c a τ (KB T f os fx r b lf e Q)=q r Q b) (j:∀τ,FQ T f os b .ret τ→Q .ret τ) (h:∀r,r.θ=C.θ→r.H0=C.H0→r.κ=C.κ→r.no=C.no→q r Q b):LW P n C c τ Q:=
 UU g k hm a lf e (by rw[d];exact j) (fun γ=>by rw[d,i,l];exact h _ rfl rfl rfl rfl)
theorem T3(e:CxOk C)(g:AG P T)(hm:P.follows .mixedOrders=true){os:Nat}(f:C.outs=os){c:Code}(a:AT)(d:List ResultVar){b:AV→List Blk→Prop}(q:Ren→(AV→List Blk→Prop)→Prop)
  (i:∀r b,A8 P T C.l n os r c a τ (KF T d os b)=q r b) (h:∀r,r.θ=C.θ→r.H0=C.H0→r.κ=C.κ→r.no=C.no→q r b):LW P n C c τ (FQ T d os b):=by
 subst f
 exact Vu e g hm a (fun γ=>by rw[i];exact h _ rfl rfl rfl rfl)
mutual
theorem SI{H:Hp}:∀(x:AV) {a:AT} {K c:AV→AT→Prop},(∀y a,K y a→c y a)→frz H x a K→frz H x a c
 |.d x,a,K,c,b,h=>b _ _ h
 |.e0,a,K,c,b,h=>b _ _ h
 |.agg xs,a,K,c,b,h=>Nu xs (fun ys a h=>b _ _ h) h
 |.ref k g off m,a,K,c,b,h=>by
  unfold frz at h⊢
  grind
 |.top,a,K,c,b,h=>by simp only[frz]at h
 |.p _,a,K,c,b,h=>by simp only[frz]at h
 |.ptr _ _ _,a,K,c,b,h=>by simp only[frz]at h
 |.mp k g,a,K,c,b,h=>by
  unfold frz at h⊢
  grind
 |.iptr _ _,a,K,c,b,h=>by simp only[frz]at h
 |.ifc _ _ _,a,K,c,b,h=>b _ _ h
 |.fn _ _ _,a,K,c,b,h=>by simp only[frz]at h
 |.tup _,a,K,c,b,h=>by simp only[frz]at h
theorem Nu{H:Hp}:∀(xs:List AV) {a:AT} {K b:List AV→AT→Prop},(∀y a,K y a→b y a)→D1 H xs a K→D1 H xs a b
 |[],a,K,b,c,h=>c _ _ h
 |x::xs,a,K,b,c,h=>by
  simp only[D1]at h⊢
  exact SI x (fun y a h=>Nu xs (fun ys a h=>c _ _ h) h) h
end
end
theorem Kj{α:Type}(e:α→List D)(x:α)(xs:List α):An e (x::xs)=(e x).map .d++An e xs:=by simp[An]
theorem MZ{α:Type}{e:α→List D}{sz:Nat}(hl:∀x,(e x).length=sz):∀(xs:List α) (j:Nat),(An e xs).drop (j*sz)=An e (xs.drop j)
 |[],j=>by simp[An]
 |x::xs,0=>by simp
 |x::xs,j+1=>by
  have a:((e x).map AV.d).length=sz:=by rw[Ym,hl]
  rw[Kj,YF,Nat.one_mul,JD,←List.drop_drop,List.drop_left' a,MZ hl xs j]
  rfl
theorem Uz{α:Type}{xs:List α}{j:Nat}{z:α}(a:j<xs.length):xs.drop j=xs.getD j z::xs.drop (j+1):=by
 rw[F8 a,Yz,Yb a];rfl
theorem Q8{α:Type}{e e':α→List D}{xs:List α}{j sz:Nat}{z:α}(a:j<xs.length)(hl:∀x,(e x).length=sz)(he:∀x,e x=e' x):CW (An e xs) (j*sz) ((e' (xs.getD j z)).map .d):=by
 unfold CW
 rw[MZ hl,Uz (z:=z) a,Kj,he,List.take_left]
def EL:D→Option Value
 |.int k n=>some (.int k n)
 |.bool b=>some (.bool b)
 |.str s=>some (.string s)
 |.list _=>none
 |.map _ _=>none
theorem T4{w:World}{S:Nat→Prop}{d:D}{v:Value}(h:EL d=some v):RepD w S d v:=by
 cases d<;>simp only[EL,Yd]at h<;>first|(subst h;constructor)|cases h
theorem UV{w:World}{S:Nat→Prop}{d:D}{u v:Value}(h:EL d=some v)(a:RepD w S d u):u=v:=by
 cases a<;>simp only[EL,Yd]at h<;>first|exact h|cases h
theorem TZ{w:World}{S:Nat→Prop}{H:Hp}{m:Mu}{l:Nat}{ds:List D}{V:List Value}{vs:Array Value}(h:ds.map EL=V.map some)(f:Es w S H m l (ds.map .d) vs):vs=V.toArray:=by
 have hl:ds.length=V.length:=by simpa using congrArg List.length h
 apply YS
 apply List.ext_getElem?
 intro i
 obtain⟨b,e⟩:=f
 have b:ds.length=vs.size:=by simpa using b
 rcases Yq i ds.length with hi|hi
 ·have c:vs[i]?=some vs[i]:=Yi (by omega)
  have j:=e i (.d ds[i]) vs[i] (by simp[Yb hi]) c
  have a:=congrArg (fun l=>l[i]?) h
  simp only[Yn,Yb hi,Yb (show i<V.length by omega),YB,Yd]at a
  rw[Yj,c,Yb (show i<V.length by omega)]
  cases j with|d _ _ g=>rw[UV a g]
 grind
section
variable {P:Program} {f:FuncId} {l:Nat} {H:Hp} {Post:AV→Hp→Prop} {ds:List D} {V:List Value}
theorem Sj{es:List (List D)}{C:Array Value}{e:TypeId}{sz cap:Nat}(z:∃fn c,P.funcs[f]?=some fn∧fn.body=some c∧(fn.name== "runtime.NumGoroutine")=false)(y:ds.map EL=V.map some)
  (A:∀w,Calls P f V.toArray w (fun e' w'=>e'=.returned (.slice (some ⟨w.heap.size,0,none⟩) es.length cap)∧w'=w.alloc (.cells C e))) (g:es.length≤cap) (o:∀x∈es,x.length=sz)
  (p:∀(i j:Nat) (x:List D) (d:D),es[i]?=some x→x[j]?=some d→∃v,C[i*sz+j]?=some v∧EL d=some v) (h:Post (.d (.list es)) H):ZaR P f l (ds.map .d) H Post:=
 ⟨z,fun m S w vs u t=>by
  rw[TZ y t]
  refine(A w).mono fun e' w' ⟨r,s⟩=>?_
  subst s
  obtain⟨B,E⟩:=u.lit C e (w.alloc (.cells C e)) rfl rfl rfl rfl
  refine⟨_,_,H,m,_,r,h,B,.d _ _ ?_,E⟩
  have a:(w.alloc (.cells C e)).heap[w.heap.size]?=some (.cells C e (0,0)):=by
   show(w.heap.push _)[w.heap.size]?=_
   grind
  exact RepD.list (w:=w.alloc (.cells C e)) (S:=fun b=>S b∨b=w.heap.size) es ⟨w.heap.size,0,none⟩ sz cap (fun i j=>(C[i*sz+j]?).getD undef) (fun _=>.inr rfl) g o
   (fun i j x d hi n=>by
    obtain⟨v,k,_⟩:=p i j x d hi n
    rw[Addr.add_lit,Do a,YH,k]
    rfl)
   (fun i j x d hi n=>by
    obtain⟨v,k,q⟩:=p i j x d hi n
    rw[k]
    exact T4 q)⟩
end
end Go.Eng
namespace Go.Eng
set_option linter.all false
open Go Go.RowKit
def Bz(r:Ren):List (Aa×Blk)→Hp→Hp
 |[],H=>H
 |(k,b)::a,H=>Bz r a (updH H (r.κ k) (Ah r k b))
def EA(P:Program)(l:Nat)(r:Ren)(f:FuncId)(xs:List AV)(d:List (Aa×Blk))(x:AV)(Ad:List (Aa×Blk))(fr:List Aa):Prop:=
 ∀a,(∀p∈d,(a (r.κ p.1)).g=r.γ p.1+p.2.g∧(p.2.live=true→a (r.κ p.1)=Ah r p.1 p.2))→(∀k:Aa,k.1≤l→¬r.no k→a k=r.H0 k)→
  ZaR P f (l+1) (Ab r xs) a (fun y b=>∃c:Aa→Nat,(∀k,k∉fr→c k=r.γ k)∧y=ren ⟨r.κ,c,r.θ,r.H0,r.no⟩ x∧b=Bz ⟨r.κ,c,r.θ,r.H0,r.no⟩ Ad a)
mutual
def CZ(fr:List Aa):AV→Bool
 |.ref k _ _ _=>fr.any (AJ k)
 |.ptr k _ _=>fr.any (AJ k)
 |.mp k _=>fr.any (AJ k)
 |.fn _ xs ys=>Dk fr xs||Dk fr ys
 |.agg xs=>Dk fr xs
 |.tup xs=>Dk fr xs
 |.top=>false
 |.d _=>false
 |.e0=>false
 |.p _=>false
 |.iptr _ _=>false
 |.ifc _ _ _=>false
def Dk(fr:List Aa):List AV→Bool
 |[]=>false
 |x::xs=>CZ fr x||Dk fr xs
end
def B6(fr:List Aa):List (Nat×AV)→List (Nat×AV)
 |[]=>[]
 |(j,x)::r=>(j,match CZ fr x with|true=>.top|false=>x)::B6 fr r
def Bq(ks fr fl:List Aa):List (Aa×Blk)→List (Aa×Blk)
 |[]=>[]
 |(k,b)::r=>match ks.any (AJ k),fl.any (AJ k)||!Dk fr b.cells with
  |false,true=>(k,b)::Bq ks fr fl r
  |_,_=>Bq (k::ks) fr fl r
def Dx:Option Nat→AV→List (Nat×AV)→List (Nat×AV)
 |some d,x,r=>(d,x)::r
 |none,_,r=>r
def AQ(os:Nat)(k:Aa):Bool:=Nat.beq k.1 1||(Nat.beq k.1 0&&Nat.ble (k.2+1) os)
def Cm(os:Nat):List (Aa×Blk)→Bool
 |[]=>true
 |(k,b)::r=>AQ os k&&b.live&&!(r.any fun p=>AJ k p.1)&&Cm os r
mutual
theorem MK{r:Ren}{b:Aa→Nat}{fr:List Aa}(a:∀k,k∉fr→b k=r.γ k):∀(x:AV),CZ fr x=false→ren ⟨r.κ,b,r.θ,r.H0,r.no⟩ x=ren r x
 |.ref k g off n,h=>by simp only[CZ]at h;simp only[ren];rw[a k (H7 h)]
 |.ptr k g off,h=>by simp only[CZ]at h;simp only[ren];rw[a k (H7 h)]
 |.mp k g,h=>by simp only[CZ]at h;simp only[ren];rw[a k (H7 h)]
 |.fn f xs ys,h=>by
  simp only[CZ,HA]at h
  have c:=EU a xs h.1
  have d:=EU a ys h.2
  cases f<;>simp only[ren,c,d]
 |.agg xs,h=>by simp only[CZ]at h;simp only[ren,EU a xs h]
 |.tup xs,h=>by simp only[CZ]at h;simp only[ren,EU a xs h]
 |.top,_=>by simp[ren]
 |.d _,_=>by simp[ren]
 |.e0,_=>by simp[ren]
 |.p _,_=>by simp[ren]
 |.iptr _ _,_=>by simp[ren]
 |.ifc _ _ _,_=>by simp[ren]
theorem EU{r:Ren}{b:Aa→Nat}{fr:List Aa}(a:∀k,k∉fr→b k=r.γ k):∀(xs:List AV),Dk fr xs=false→Ab ⟨r.κ,b,r.θ,r.H0,r.no⟩ xs=Ab r xs
 |[],_=>by simp[Ab]
 |x::xs,h=>by
  simp only[Dk,HA]at h
  simp only[Ab,MK a x h.1,EU a xs h.2]
theorem H7{k:Aa}{fr:List Aa}(h:fr.any (AJ k)=false):k∉fr:=fun hm=>by
 have:fr.any (AJ k)=true:=Y0.2 ⟨k,hm,A1.2 rfl⟩
 grind
end
def Fj:Code→Array Oper
 |.region _ ops _=>ops
 |_=>#[]
def LO(P:Program)(n:Nat)(C:Cx)(c:Code)(k:Nat)(τ:St)(Q:Exit→St→Prop):Prop:=
 ∀γ σ a w,C.G γ→RG (C.r γ) C.l C.outs [] τ σ→R C.l n C.B σ a w→wpList P (Fj c) (fun e d w'=>∃b,Is n C (Q e) b∧R C.l n C.B b d w') ((Fj c).toList.drop k) a w
def Dp(c:Code)(k:Nat):Option (Option Nat×Operand×List Operand):=
 match AY (Fj c).toList k with
 |some o=>(match o.guard,o.op with
  |none,.call cl=>(match cl.callee with|.value f=>some (o.dst,f,cl.args.toList)|_=>none)
  |_,_=>none)
 |none=>none
def Cy(C:Cx):List (Aa×Blk)→Prop
 |[]=>True
 |(k,_)::r=>match Nat.beq k.1 1 with|true=>Cy C r|false=>C.no (C.κ k)∧Cy C r
def EI(H:Hp):List Aa→Prop
 |[]=>True
 |k::r=>Dr (H k).cells∧EI H r
def G2(fr:List Aa)(Ad:List (Aa×Blk)):Bool:=fr.all fun k=>Ad.any fun p=>AJ k p.1
def GD(fr:List Aa)(fx:List Nat):Bool:=fr.all fun k=>!(Nat.beq k.1 0&&fx.any (Nat.beq k.2))
def DQ:List (Aa×Blk)→Bool
 |[]=>true
 |(_,b)::r=>Nat.beq b.g 0&&DQ r
def Qj:Option Nat→(Nat→AV)→AV→Nat→AV
 |some d,s,v=>upd s d v
 |none,s,_=>s
def GI(n:Nat):Option Nat→Bool
 |some d=>Nat.ble (d+1) n
 |none=>true
section
variable {P:Program} {T:Nat→Option TI} {n:Nat} {C:Cx} {τ:St} {Q:Exit→St→Prop}
theorem HX:∀{hs:List (Aa×Blk)},DQ hs=true→∀k,(Ae hs k).g=0
 |[],_,k=>rfl
 |(k',b)::r,h,k=>by
  simp only[DQ,Ye]at h
  simp only[Ae]
  split
  ·exact Ya h.1
  ·exact HX h.2 k
theorem NL{k:Aa}{ks:List Aa}:ks.any (AJ k)=true↔k∈ks:=by
 rw[Y0]
 exact⟨fun⟨q,a,b⟩=>by rw[A1.1 b];exact a,fun h=>⟨k,h,A1.2 rfl⟩⟩
theorem T7(a b:List (Aa×Blk))(k:Aa):Ae (a++b) k=if k∈a.map (·.1)then Ae a k else Ae b k:=by
 induction a with
 |nil=>simp
 |cons p a f=>
  obtain⟨q,d⟩:=p
  simp only[Em,Ae,YK,YG]
  cases c:AJ q k with
  |true=>rw[Yt (.inl (A1.1 c).symm)]
  |false=>
   have:k≠q:=fun e=>by rw[A1.2 e.symm]at c;cases c
   grind
theorem Gm{fr fl:List Aa}:∀(hs:List (Aa×Blk)) (ks:List Aa) (k:Aa),(k∈ks→Ae (Bq ks fr fl hs) k=Ck)∧(k∉ks→(Ae (Bq ks fr fl hs) k=Ae hs k∧(k∈fl∨Dk fr (Ae hs k).cells=false))∨Ae (Bq ks fr fl hs) k=Ck)
 |[],ks,k=>⟨fun _=>rfl,fun _=>.inr rfl⟩
 |(q,b)::r,ks,k=>by
  simp only[Bq]
  split
  ·rename_i d a
   have f:q∉ks:=fun hm=>by rw[NL.2 hm]at d;cases d
   simp only[Ae]
   cases c:AJ q k with
   |true=>
    have c:=A1.1 c
    subst c
    refine⟨fun h=>absurd h f,fun _=>.inl ⟨rfl,?_⟩⟩
    simp only[YE,Y4]at a
    rcases a with a|a
    ·exact .inl (NL.1 a)
    grind
   |false=>exact Gm r ks k
  ·obtain⟨d,a⟩:=Gm (fr:=fr) (fl:=fl) r (q::ks) k
   refine⟨fun h=>d (Yw _ h),fun h=>?_⟩
   by_cases c:k=q
   ·grind
   ·rcases a (fun hm=>(YG.1 hm).elim c h)with⟨i,j⟩|e
    ·have:AJ q k=false:=by
      cases g:AJ q k with
      |true=>exact absurd (A1.1 g).symm c
      |false=>rfl
     simp only[Ae,this]
     grind
    grind
theorem HI{r:Ren}:∀(Ad:List (Aa×Blk)) (H:Hp) (q:Aa),(∀p∈Ad,r.κ p.1≠q)→Bz r Ad H q=H q
 |[],H,q,h=>rfl
 |(k,b)::a,H,q,h=>by
  simp only[Bz]
  rw[HI a _ q (fun p c=>h p (Yw _ c)),Af _ _ (fun e=>h (k,b) (YC ..) e.symm)]
theorem NV{r:Ren}{os:Nat}(d:∀q k:Aa,AQ os q=true→AQ os k=true→q≠k→r.κ q≠r.κ k):∀(Ad:List (Aa×Blk)) (H:Hp),Cm os Ad=true→∀k b,(k,b)∈Ad→Bz r Ad H (r.κ k)=Ah r k b∧Ae Ad k=b∧AQ os k=true∧b.live=true
 |[],H,_,k,b,hm=>by cases hm
 |(q,c)::rest,H,g,k,b,hm=>by
  simp only[Cm,Ye,Y4]at g
  obtain⟨⟨⟨i,o⟩,j⟩,m⟩:=g
  have f:∀p∈rest,p.1≠q:=fun p a e=>by
   have:(rest.any fun p=>AJ q p.1)=true:=Y0.2 ⟨p,a,A1.2 e.symm⟩
   rw[this]at j;cases j
  have h:∀(l:List (Aa×Blk)),Cm os l=true→∀p∈l,AQ os p.1=true:=by
   intro l
   induction l with
   |nil=>intro _ p a;cases a
   |cons p l t=>
    obtain⟨u,v⟩:=p
    intro hl p a
    simp only[Cm,Ye]at hl
    rcases YG.1 a with rfl|a
    ·exact hl.1.1.1
    ·exact t hl.2 p a
  simp only[Bz]
  rcases YG.1 hm with e|hm
  ·cases e
   refine⟨?_,by simp only[Ae,A1.2 rfl],i,o⟩
   rw[HI rest _ _ (fun p a=>d _ _ (h rest m p a) i (f p a)),Ai]
  ·obtain⟨g1,n,g3,g4⟩:=NV d rest (updH H (r.κ q) (Ah r q c)) m k b hm
   refine⟨g1,?_,g3,g4⟩
   have:AJ q k=false:=by
    cases s:AJ q k with
    |true=>exact absurd (A1.1 s).symm (f _ hm)
    |false=>rfl
   simp only[Ae,this]
   exact n
theorem K5:∀{Ad:List (Aa×Blk)},Cy C Ad→∀p∈Ad,p.1.1≠1→C.no (C.κ p.1)
 |(k,b)::r,h,p,c,a=>by
  simp only[Cy]at h
  split at h
  ·rename_i d
   rcases YG.1 c with rfl|c
   ·exact absurd (Ya d) a
   ·exact K5 h p c a
  ·rcases YG.1 c with rfl|c
   ·exact h.1
   ·exact K5 h.2 p c a
theorem K1{H:Hp}:∀{ks:List Aa},EI H ks→∀k∈ks,Dr (H k).cells
 |q::r,h,k,a=>by
  rcases YG.1 a with rfl|a
  ·exact h.1
  ·exact K1 h.2 k a
theorem DP{os:Nat}{k:Aa}(h:AQ os k=true):k.1=1∨(k.1=0∧k.2<os):=by
 simp only[AQ,YE,Ye]at h
 rcases h with h|⟨a,b⟩
 ·exact .inl (Ya h)
 ·exact .inr ⟨Ya a,Yf b⟩
theorem Ny{fr:List Aa}:∀(ss:List (Nat×AV)) (j:Nat),AB (B6 fr ss) j=.top∨(AB (B6 fr ss) j=AB ss j∧CZ fr (AB ss j)=false)
 |[],j=>.inl rfl
 |(i,x)::r,j=>by
  simp only[B6,AB]
  split
  ·grind
  ·exact Ny r j
theorem Tw(hC:CxOk C){os:Nat}{fx:List Nat}(hO:C.outs=os)(hF:C.fx=fx){c:Code}{k:Nat}{ss:List (Nat×AV)}{hs:List (Aa×Blk)}(l:Option Nat)(fo:Operand)(aZ:List Operand)(m:Dp c k=some (l,fo,aZ))
  (f:FuncId) (first u xs:List AV) (hf:ev (AB ss) fo=.fn (.func f) first u) (hxs:first++aZ.map (ev (AB ss))++u=xs) (ks:List Aa) (J:List (Aa×Blk)) (hhb:(ks.map fun k=>(k,Ae hs k))=J)
  {ι:Type} (I:ι→Prop) (xF:ι→AV) (s:ι→List (Aa×Blk)) (fr fl:List Aa) (M:(GD fr fx&&DQ hs&&GI n l&&ks.all (AQ os))=true) (t:∀i,(Cm os (s i)&&G2 fr (s i))=true) (H:∀i,Cy C (s i)) (hfl:EI (Ae hs) fl)
  (T:∀r:Ren,r.θ=C.θ→r.H0=C.H0→r.κ=C.κ→r.no=C.no→∀V,(∀p∈J,(V (r.κ p.1)).g=r.γ p.1+p.2.g∧(p.2.live=true→V (r.κ p.1)=Ah r p.1 p.2))→(∀k:Aa,k.1≤C.l→¬r.no k→V k=r.H0 k)→
   ZaR P f (C.l+1) (Ab r xs) V (fun y W=>∃i,I i∧∃a:Aa→Nat,(∀k,k∉fr→a k=r.γ k)∧y=ren ⟨r.κ,a,r.θ,r.H0,r.no⟩ (xF i)∧W=Bz ⟨r.κ,a,r.θ,r.H0,r.no⟩ (s i) V))
  (h:∀i,I i→LO P n C c (k+1) (Ac (Dx l (xF i) (B6 fr ss)) (s i++Bq ((s i).map (·.1)) fr fl hs)) Q):LO P n C c k (Ac ss hs) Q:=by
 subst hO
 subst hF
 simp only[Ye]at M
 obtain⟨⟨⟨k3,k4⟩,k5⟩,k6⟩:=M
 intro γ σ act w hg z hR
 have hr:=hC.ren γ
 have hs':∀j,σ.s j=ren (C.r γ) (AB ss j):=fun j=>(z.s j).1 Au
 have A:∀y:Operand,ev σ.s y=ren (C.r γ) (ev (AB ss) y):=fun y=>Eu (c:=[]) z Au (by cases y<;>rfl)
 unfold Dp at m
 split at m
 case h_2=>cases m
 rename_i o ho
 split at m
 case h_2=>cases m
 rename_i cl hgd hopc
 split at m
 case h_2=>cases m
 rename_i fo' hcal
 simp only[Yd,Y9]at m
 obtain⟨hd,rfl,rfl⟩:=m
 rw[B1]at ho
 have hlt:k<(Fj c).toList.length:=by
  grind
 have U:(Fj c).toList.drop k=o::(Fj c).toList.drop (k+1):=by
  rw[F8 hlt]
  grind
 rw[U]
 have L:∀q k:Aa,AQ C.outs q=true→AQ C.outs k=true→q≠k→(C.r γ).κ q≠(C.r γ).κ k:=fun q k Z h2 h3=>hr.ne (DP Z) (DP h2) h3
 have hA:=T (C.r γ) rfl rfl rfl rfl σ.H (fun p E=>by
  rw[←hhb]at E
  obtain⟨q,g,rfl⟩:=YD.1 E
  have hq':=DP (Yo.1 k6 q g)
  refine⟨?_,fun hl=>z.h q hl⟩
  obtain⟨q1,q2⟩:=q
  simp only at hq'
  rcases hq' with rfl|⟨rfl,h2⟩
  ·have:=z.g q2
   rw[←hr.own]at this
   exact this
  ·exact z.go q2 h2) z.o
 have S:Ab (C.r γ) xs=Ab (C.r γ) first++cl.args.toList.map (ev σ.s)++Ab (C.r γ) u:=by
  rw[←hxs,CX,CX]
  congr 2
  rw[CD,CS]
  exact YW fun y _=>(A y).symm
 have hfe:ev σ.s fo'=.fn (.func f) (Ab (C.r γ) first) (Ab (C.r γ) u):=by rw[A,hf];simp[ren]
 have hrop:AF P C.l n o (fun σ'=>∃i,I i∧∃a:Aa→Nat,(∀q,q∉fr→a q=γ q)∧σ'=⟨Qj l σ.s (ren (C.r a) (xF i)),Bz (C.r a) (s i) σ.H⟩) σ:=by
  unfold AF
  rw[hopc]
  simp only[hcal,hfe]
  rw[S]at hA
  refine hA.mono fun y W ⟨i,hi,a,N,e2,e3⟩=>?_
  unfold GX A3
  rw[hd]
  cases l with
  |none=>exact⟨i,hi,a,N,by rw[e3];rfl⟩
  |some d=>exact⟨Yf k5,i,hi,a,N,by rw[e2,e3];rfl⟩
 refine JZ (by simp[Region.wanted,hgd]) (Gl hrop) hR fun σ' Y w' hK O=>?_
 obtain⟨i,hi,a,N,rfl⟩:=hK
 have h:=h i hi
 have H:=H i
 have t:=t i
 generalize s i=Ad at h H t O
 generalize xF i=x at h O
 simp only[Ye]at t
 obtain⟨k1,k2⟩:=t
 have hsub:∀q,q∈fr→∃b,(q,b)∈Ad:=fun q g=>by
  obtain⟨p,E,hk⟩:=Y0.1 (Yo.1 k2 q g)
  rw[A1.1 hk];exact⟨p.2,E⟩
 let τ2:St:=Ac (Dx l x (B6 fr ss)) (Ad++Bq (Ad.map (·.1)) fr fl hs)
 have D:∀q,Ae (Ad++Bq (Ad.map (·.1)) fr fl hs) q=if q∈Ad.map (·.1)then Ae Ad q else Ae (Bq (Ad.map (·.1)) fr fl hs) q:=fun q=>T7 _ _ _
 have hin:∀q,q∈Ad.map (·.1)→∃b,(q,b)∈Ad:=fun q g=>by obtain⟨p,E,rfl⟩:=YD.1 g;exact⟨p.2,E⟩
 have F:∀q b,(q,b)∈Ad→Bz (C.r a) Ad σ.H ((C.r a).κ q)=Ah (C.r a) q b∧Ae Ad q=b∧AQ C.outs q=true∧b.live=true:=NV (r:=C.r a) L Ad σ.H k1
 have B:∀q,q∉Ad.map (·.1)→AQ C.outs q=true→Bz (C.r a) Ad σ.H ((C.r a).κ q)=σ.H ((C.r a).κ q)∧a q=γ q:=fun q g v=>by
  refine⟨HI _ _ _ fun p E=>L _ _ (F p.1 p.2 E).2.2.1 v fun e=>g (YD.2 ⟨p,E,e⟩),N q fun hf=>?_⟩
  grind
 have K:∀q,AQ C.outs q=true→(σ.H (C.κ q)).g=γ q→(Bz (C.r a) Ad σ.H (C.κ q)).g=a q+(Ae (Ad++Bq (Ad.map (·.1)) fr fl hs) q).g:=fun q v hq0=>by
  rw[D]
  split
  ·rename_i hm
   obtain⟨b,J⟩:=hin q hm
   obtain⟨a1,X,_⟩:=F q b J
   rw[show C.κ q=(C.r a).κ q from rfl,a1,X]
   rfl
  ·rename_i hm
   obtain⟨a1,X⟩:=B q hm v
   rw[show C.κ q=(C.r a).κ q from rfl,a1,X]
   have:(Ae (Bq (Ad.map (·.1)) fr fl hs) q).g=0:=by
    rcases(Gm (fr:=fr) (fl:=fl) hs (Ad.map (·.1)) q).2 hm with⟨e,_⟩|e
    ·rw[e];exact HX k4 q
    ·rw[e];rfl
   rw[this]
   exact hq0
 have hG2:RG (C.r a) C.l C.outs [] τ2 ⟨fun j=>ren (C.r a) (τ2.s j),Bz (C.r a) Ad σ.H⟩:=by
  refine⟨fun j=>⟨fun _=>rfl,fun hn=>absurd Au hn⟩,fun q g=>?_,fun d=>?_,fun i hi=>?_,fun q g=>?_,fun q g hn=>?_⟩
  ·show Bz (C.r a) Ad σ.H ((C.r a).κ q)=Ah (C.r a) q (Ae (Ad++Bq (Ad.map (·.1)) fr fl hs) q)
   replace g:(Ae (Ad++Bq (Ad.map (·.1)) fr fl hs) q).live=true:=g
   rw[D]at g⊢
   split at g
   ·grind
   ·rename_i hm
    rw[Yy hm]
    rcases(Gm (fr:=fr) (fl:=fl) hs (Ad.map (·.1)) q).2 hm with⟨e,e'⟩|e
    ·rw[e]at g⊢
     have v:=z.k q g
     have t:AQ C.outs q=true:=by
      obtain⟨q1,q2⟩:=q
      simp only at v
      simp only[AQ,YE,Ye]
      rcases v with rfl|⟨rfl,h2⟩
      ·exact .inl rfl
      ·exact .inr ⟨rfl,Mo h2⟩
     obtain⟨a1,X⟩:=B q hm t
     rw[a1]
     have J:=z.h q g
     have G:Ab (C.r a) (Ae hs q).cells=Ab (C.r γ) (Ae hs q).cells:=by
      rcases e' with e'|e'
      ·rw[Ep (K1 hfl q e'),Ep (K1 hfl q e')]
      ·exact EU (r:=C.r γ) N _ e'
     show σ.H ((C.r γ).κ q)=_
     rw[J]
     simp only[Ah]
     rw[G,show(C.r a).γ q=a q from rfl,X]
     rfl
    ·rw[e]at g;cases g
  ·have:=K (1,d) rfl (by
    have:=z.g d
    rw[show((Ac ss hs).H (1,d)).g=0 from HX k4 _]at this
    rw[hC.own];exact this)
   rw[hC.own]at this
   exact this
  ·exact K (0,i) (by simp only[AQ,YE,Ye];exact .inr ⟨rfl,Mo hi⟩) (by
    have:=z.go i hi
    rw[show((Ac ss hs).H (0,i)).g=0 from HX k4 _]at this
    exact this)
  ·replace g:(Ae (Ad++Bq (Ad.map (·.1)) fr fl hs) q).live=true:=g
   rw[D]at g
   split at g
   ·rename_i hm
    obtain⟨b,J⟩:=hin q hm
    exact DP (F q b J).2.2.1
   ·rename_i hm
    rcases(Gm (fr:=fr) (fl:=fl) hs (Ad.map (·.1)) q).2 hm with⟨e,e'⟩|e
    ·rw[e]at g;exact z.k q g
    ·rw[e]at g;cases g
  ·show Bz (C.r a) Ad σ.H q=C.H0 q
   rw[HI _ _ _ fun p E e=>?_]
   ·exact z.o q g hn
   ·by_cases Z:p.1.1=1
    ·obtain⟨⟨p1,p2⟩,p3⟩:=p
     simp only at Z
     subst Z
     rw[show(C.r a).κ (1,p2)=(C.l+1,p2)from hC.own p2]at e
     grind
    ·exact hn (by rw[←e];exact K5 H p E Z)
 refine h a _ Y w' (hC.G γ a (fun i hi=>N _ fun hm=>?_) hg) hG2 (R.weaken O fun j=>?_)
 ·have:=Yo.1 k3 _ hm
  simp only[Y4,Mp]at this
  rcases this with h|h
  ·cases h
  ·have:(C.fx.any (Nat.beq i))=true:=Y0.2 ⟨i,hi,by simp⟩
   grind
 ·have old:ren (C.r a) (AB (B6 fr ss) j)=σ.s j∨ren (C.r a) (AB (B6 fr ss) j)=.top:=by
   rcases Ny (fr:=fr) ss j with e|⟨e,e'⟩
   ·right;rw[e];simp[ren]
   ·left
    rw[e,hs' j]
    exact MK (r:=C.r γ) N _ e'
  show ren (C.r a) (AB (Dx l x (B6 fr ss)) j)=_∨ren (C.r a) (AB (Dx l x (B6 fr ss)) j)=.top
  cases l with
  |none=>exact old
  |some d=>
   simp only[Dx,AB,Qj,upd]
   cases hj:Nat.beq d j with
   |true=>
    have:=Ya hj
    grind
   |false=>
    have:j≠d:=fun e=>by rw[e]at hj;simp at hj
    grind
theorem TN(D:CxOk C){os:Nat}{fx:List Nat}(F:C.outs=os)(E:C.fx=fx){c:Code}{k:Nat}{ss:List (Nat×AV)}{hs:List (Aa×Blk)}(e:Option Nat)(l:Operand)(j:List Operand)(q:Dp c k=some (e,l,j))
  (f:FuncId) (first d xs:List AV) (G:ev (AB ss) l=.fn (.func f) first d) (t:first++j.map (ev (AB ss))++d=xs) (ks:List Aa) (m:List (Aa×Blk)) (p:(ks.map fun k=>(k,Ae hs k))=m)
  (x:AV) (Ad:List (Aa×Blk)) (fr fl:List Aa) (i:(Cm os Ad&&G2 fr Ad&&GD fr fx&&DQ hs&&GI n e&&ks.all (AQ os))=true) (s:Cy C Ad) (o:EI (Ae hs) fl)
  (g:∀r:Ren,r.θ=C.θ→r.H0=C.H0→r.κ=C.κ→r.no=C.no→EA P C.l r f xs m x Ad fr)
  (h:LO P n C c (k+1) (Ac (Dx e x (B6 fr ss)) (Ad++Bq (Ad.map (·.1)) fr fl hs)) Q):LO P n C c k (Ac ss hs) Q:=by
 simp only[Ye]at i
 obtain⟨⟨⟨⟨⟨I,J⟩,K⟩,L⟩,M⟩,N⟩:=i
 exact Tw D F E e l j q f first d xs G t ks m p (ι:=Unit) (fun _=>True) (fun _=>x) (fun _=>Ad) fr fl (by simp only[Ye];exact⟨⟨⟨K,L⟩,M⟩,N⟩) (fun _=>by simp only[Ye];exact⟨I,J⟩) (fun _=>s) o
  (fun r w z A B u a b=>(g r w z A B u a b).mono fun y v H=>⟨(),trivial,H⟩) fun _ _=>h
end
def Cc(l:Nat)(ks:List Aa):Aa→Aa
 |(0,i)=>match AY ks i with|some k=>k|none=>(0,0)
 |(_+1,d)=>(l+1,d)
def DD(a:List Nat):Aa→Nat
 |(0,i)=>match AY a i with|some g=>g|none=>0
 |(_+1,_)=>0
def A0(l:Nat)(ks:List Aa)(a:List Nat)(θ:Nat→AV)(H:Hp):Ren:=⟨Cc l ks,DD a,θ,H,fun k=>k∈ks⟩
def DJ(l:Nat)(ks:List Aa)(a:List Nat)(r:Ren):Prop:=r.κ=Cc l ks∧∀i,i<ks.length→r.γ (0,i)=DD a (0,i)
def Bh(r:Ren):Nat→List Blk→List Blk
 |_,[]=>[]
 |i,b::a=>Ah r (0,i) b::Bh r (i+1) a
def BC(H:Hp):List Aa→List Blk→Hp
 |k::ks,b::a=>BC (updH H k b) ks a
 |_,_=>H
theorem J5:∀(ks:List Aa) (a:List Blk) (H:Hp) (q:Aa),q∉ks→BC H ks a q=H q
 |[],a,H,q,h=>by cases a<;>rfl
 |k::ks,[],H,q,h=>rfl
 |k::ks,b::a,H,q,h=>by
  simp only[BC]
  rw[J5 ks a _ q (fun hm=>h (Yw _ hm)),Af _ _ (fun e=>h (by rw[e];exact YC ..))]
theorem Oj:∀(ks:List Aa) (a:List Blk) (H:Hp),ks.Nodup→∀(j:Nat) (k:Aa) (b:Blk),ks[j]?=some k→a[j]?=some b→BC H ks a k=b
 |[],a,H,_,j,k,b,h,_=>by simp at h
 |q::ks,[],H,_,_,_,_,_,h=>by simp at h
 |q::ks,c::a,H,e,j,k,b,d,hb=>by
  simp only[BC]
  rw[List.nodup_cons]at e
  cases j with
  |zero=>
   simp only[YZ,Yd]at d hb
   subst d;subst hb
   rw[J5 ks a _ _ e.1,Ai]
  |succ j=>
   simp only[Y8]at d hb
   exact Oj ks a _ e.2 j k b d hb
theorem NP{r:Ren}:∀(a:List Blk) (i j:Nat),(Bh r i a)[j]?=(a[j]?).map (Ah r (0,i+j))
 |[],i,j=>by simp[Bh]
 |b::a,i,0=>by simp[Bh]
 |b::a,i,j+1=>by
  simp only[Bh,Y8,NP a (i+1) j,show i+1+j=i+(j+1)from by omega]
theorem Q3{P:Program}{T:Nat→Option TI}{n:Nat}{f:FuncId}{fn:Func}(J:List ResultVar)(c:Code){l:Nat}{xs:List AV}{H:Hp}{g:AV→Hp→Prop}(ks:List Aa)(t:List Nat)(fx:List Nat)(θ:Nat→AV)(ys:List AV)(hs:List (Aa×Blk))(LPost:AV→List Blk→Prop)
  (V:P.funcs[f]?=some fn) (hb:fn.body=some c) (s:(fn.name== "runtime.NumGoroutine")=false) (Z:fn.ntmps=n) (hr:fn.results.toList=J) (hx:xs.length≤n) (S:AG P T)
  (D:∀k∈ks,k.1≤l) (u:ks.Nodup) (W:∀d,Ae hs (1,d)=Ck) (F:∀k,(Ae hs k).live=true→k.1=0∧k.2<ks.length)
  (R:∀i k,ks[i]?=some k→(H k).g=DD t (0,i)+(Ae hs (0,i)).g∧((Ae hs (0,i)).live=true→H k=Ah (A0 l ks t θ H) (0,i) (Ae hs (0,i))))
  (I:Ab (A0 l ks t θ H) ys=xs)
  (h:∀C,CxOk C→C.outs=ks.length→C.fx=fx→C.l=l→C.H0=H→C.θ=θ→C.κ=Cc l ks→C.no=(fun k=>k∈ks)→LW P n C c (Ac (BJ 0 ys) hs) (FQ T J ks.length LPost))
  (v:∀y b,LPost y b→b.length=ks.length∧(∀x∈b,x.live=true)∧∀r:Ren,r.κ=Cc l ks→r.θ=θ→r.H0=H→r.no=(fun k=>k∈ks)→(∀i∈fx,r.γ (0,i)=DD t (0,i))→g (ren r y) (BC H ks (Bh r 0 b))):ZaR P f l xs H g:=by
 let C:Base→Cx:=fun B=>⟨l,B,Cc l ks,θ,H,ks.length,fun k=>k∈ks,fx,fun γ=>∀i∈fx,γ (0,i)=DD t (0,i)⟩
 have a:∀i,i<ks.length→ks[i]?=some (Cc l ks (0,i)):=fun i hi=>by
  show _=some (match AY ks i with|some k=>k|none=>(0,0))
  rw[B1,Yb hi]
 have E:∀(i:Nat) (k:Aa),ks[i]?=some k→i<ks.length:=fun i k hi=>by
  grind
 have K:∀B,CxOk (C B):=fun B=>by
  refine⟨fun _=>rfl,fun i hi=>D _ (Yp (a i hi)),fun i j hi Y e=>?_,fun k w=>?_,fun γ γ' he A i hi=>by rw[he i hi];exact A i hi⟩
  ·have m:=a i hi
   have o:=a j Y
   rw[show Cc l ks (0,i)=Cc l ks (0,j)from e]at m
   have Q:ks[i]?=ks[j]?:=m.trans o.symm
   exact(List.getElem?_inj hi u).1 Q
  ·obtain⟨i,hi⟩:=EP.1 (show k∈ks from w)
   grind
 refine NG J C (γ:=DD t) (LPost:=LPost) (ys:=ys) (hs:=hs) V hb s Z hr hx S K (fun B=>⟨rfl,rfl,rfl,fun i _=>rfl⟩) (fun B=>I) (fun _=>rfl) W (fun B k w=>?_) (fun B i hi=>?_) (fun B γ y b N A hy L _=>?_) (fun B=>h _ (K B) rfl rfl rfl rfl rfl rfl rfl)
 ·obtain⟨m,o⟩:=F k w
  obtain⟨k1,M⟩:=k
  simp only at m o
  subst m
  exact⟨rfl,o,(R M _ (a M o)).2 w⟩
 ·grind
 ·obtain⟨U,z,v⟩:=v y b hy
  have v:=v ((C B).r γ) rfl rfl rfl rfl fun i hi=>A i hi
  have O:N=BC H ks (Bh ((C B).r γ) 0 b):=by
   funext q
   by_cases G:q∈ks
   ·obtain⟨i,hi⟩:=EP.1 G
    have X:=E i q hi
    have p:b[i]?=some b[i]:=Yb (by omega)
    have m:=L.live i _ p (z _ (Yp p))
    have o:Cc l ks (0,i)=q:=by
     grind
    rw[show(C B).κ (0,i)=q from o]at m
    rw[m,Oj ks _ H u i q (Ah ((C B).r γ) (0,i) b[i]) hi]
    rw[NP,p,YH]
    rfl
   ·rw[J5 ks _ H q G]
    exact L.o q G
  rw[O];exact v
theorem Q2{P:Program}{T:Nat→Option TI}{n:Nat}{f:FuncId}{fn:Func}(w:List ResultVar)(c:Code){l:Nat}{xs:List AV}{H:Hp}{a:AV→Hp→Prop}(ks:List Aa)(e:List Nat)(fx:List Nat)(θ:Nat→AV)(ys:List AV)(hs:List (Aa×Blk))(LPost:AV→List Blk→Prop)
  (G:P.funcs[f]?=some fn) (hb:fn.body=some c) (g:(fn.name== "runtime.NumGoroutine")=false) (J:fn.ntmps=n) (K:fn.results.toList=w) (L:xs.length≤n) (E:AG P T)
  (q:∀k∈ks,k.1≤l) (t:ks.Nodup) (p:∀i,i<ks.length→i∈fx) (I:∀d,Ae hs (1,d)=Ck) (s:∀k,(Ae hs k).live=true→k.1=0∧k.2<ks.length)
  (D:∀i k,ks[i]?=some k→(H k).g=DD e (0,i)+(Ae hs (0,i)).g∧((Ae hs (0,i)).live=true→H k=Ah (A0 l ks e θ H) (0,i) (Ae hs (0,i))))
  (v:Ab (A0 l ks e θ H) ys=xs)
  (h:∀C,CxOk C→C.outs=ks.length→C.fx=fx→C.l=l→C.H0=H→C.θ=θ→C.κ=Cc l ks→C.no=(fun k=>k∈ks)→LW P n C c (Ac (BJ 0 ys) hs) (FQ T w ks.length LPost))
  (u:∀y b,LPost y b→b.length=ks.length∧(∀x∈b,x.live=true)∧∃Y' bs',(∀r,DJ l ks e r→ren r y=Y')∧(∀r,DJ l ks e r→Bh r 0 b=bs')∧a Y' (BC H ks bs')):ZaR P f l xs H a:=by
 refine Q3 w c ks e fx θ ys hs LPost G hb g J K L E q t I s D v h fun y b hy=>?_
 obtain⟨m,o,Y',bs',F,B,u⟩:=u y b hy
 refine⟨m,o,fun r z _ _ _ A=>?_⟩
 have j:DJ l ks e r:=⟨z,fun i hi=>A i (p i hi)⟩
 rw[F _ j,B _ j];exact u
theorem RB{P:Program}{T:Nat→Option TI}{n:Nat}{f:FuncId}{fn:Func}(v:List ResultVar)(c:Code){l:Nat}{xs:List AV}{H:Hp}{a:AV→Hp→Prop}(ks:List Aa)(g:List Nat)(fx:List Nat)(θ:Nat→AV)(ys:List AV)(hs:List (Aa×Blk))(Y:AV)(j:List Blk){Y':AV}{bs':List Blk}
  (E:P.funcs[f]?=some fn) (hb:fn.body=some c) (e:(fn.name== "runtime.NumGoroutine")=false) (G:fn.ntmps=n) (J:fn.results.toList=v) (K:xs.length≤n) (B:AG P T)
  (q:∀k∈ks,k.1≤l) (t:ks.Nodup) (p:∀i,i<ks.length→i∈fx) (F:∀d,Ae hs (1,d)=Ck) (s:∀k,(Ae hs k).live=true→k.1=0∧k.2<ks.length)
  (A:∀i k,ks[i]?=some k→(H k).g=DD g (0,i)+(Ae hs (0,i)).g∧((Ae hs (0,i)).live=true→H k=Ah (A0 l ks g θ H) (0,i) (Ae hs (0,i))))
  (u:Ab (A0 l ks g θ H) ys=xs) (m:j.length=ks.length) (o:∀b∈j,b.live=true) (D:∀r,DJ l ks g r→ren r Y=Y') (z:∀r,DJ l ks g r→Bh r 0 j=bs')
  (h:∀C,CxOk C→C.outs=ks.length→C.fx=fx→C.l=l→C.H0=H→C.θ=θ→C.κ=Cc l ks→C.no=(fun k=>k∈ks)→LW P n C c (Ac (BJ 0 ys) hs) (FQ T v ks.length (fun y b=>y=Y∧b=j)))
  (I:a Y' (BC H ks bs')):ZaR P f l xs H a:=by
 exact Q2 v c ks g fx θ ys hs (fun y b=>y=Y∧b=j) E hb e G J K B q t p F s A u h fun y b ⟨w,x⟩=>by subst w;subst x;exact⟨m,o,Y',bs',D,z,I⟩
section
variable {P:Program} {l:Nat} {r:Ren} {f:FuncId} {xs xs':List AV} {hb Ad:List (Aa×Blk)} {x x':AV}
theorem SQ(e:Ab r xs=xs')(g:ren r x=x')(h:∀a,(∀p∈hb,(a (r.κ p.1)).g=r.γ p.1+p.2.g∧(p.2.live=true→a (r.κ p.1)=Ah r p.1 p.2))→(∀k:Aa,k.1≤l→¬r.no k→a k=r.H0 k)→ZaR P f (l+1) xs' a (fun y b=>y=x'∧b=Bz r Ad a)):
  EA P l r f xs hb x Ad []:=fun a hb i=>by
 rw[e]
 exact(h a hb i).mono fun y b ⟨c,d⟩=>⟨r.γ,fun _ _=>rfl,by rw[c,←g],d⟩
end
theorem Ni{α:Type}(e:α→List D)(xs:List α):CC (An e xs):=fun x a=>by
 obtain⟨d,_,rfl⟩:=YD.1 a;rfl
def D2(n:Nat):List (Aa×Blk)→Bool
 |[]=>true
 |(k,_)::r=>Nat.beq k.1 0&&Nat.ble (k.2+1) n&&D2 n r
theorem N3{n:Nat}:∀{hs:List (Aa×Blk)},D2 n hs=true→∀k,(Ae hs k).live=true→k.1=0∧k.2<n
 |[],_,k,h=>by simp[Ae,Ck]at h
 |(q,b)::r,hi,k,h=>by
  simp only[D2,Ye]at hi
  simp only[Ae]at h
  split at h
  ·rename_i a
   have a:=A1.1 a
   subst a
   exact⟨Ya hi.1.1,Yf hi.1.2⟩
  ·exact N3 hi.2 k h
theorem Nl{n:Nat}:∀{hs:List (Aa×Blk)},D2 n hs=true→∀d,Ae hs (1,d)=Ck
 |[],_,d=>rfl
 |(q,b)::r,hi,d=>by
  simp only[D2,Ye]at hi
  simp only[Ae]
  split
  ·rename_i a
   have a:=A1.1 a
   subst a
   have:=Ya hi.1.1
   grind
  ·exact Nl hi.2 d
def Ej(H:Hp)(r:Ren)(hs:List (Aa×Blk)):Nat→List Aa→Prop
 |_,[]=>True
 |i,k::ks=>((H k).g=r.γ (0,i)+(Ae hs (0,i)).g∧((Ae hs (0,i)).live=true→H k=Ah r (0,i) (Ae hs (0,i))))∧Ej H r hs (i+1) ks
theorem OY{H:Hp}{r:Ren}{hs:List (Aa×Blk)}:∀{ks:List Aa} {i:Nat},Ej H r hs i ks→∀j k,ks[j]?=some k→(H k).g=r.γ (0,i+j)+(Ae hs (0,i+j)).g∧((Ae hs (0,i+j)).live=true→H k=Ah r (0,i+j) (Ae hs (0,i+j)))
 |[],i,_,j,k,h=>by simp at h
 |q::ks,i,h,0,k,a=>by
  simp only[YZ,Yd]at a
  subst a
  exact h.1
 |q::ks,i,h,j+1,k,a=>by
  have:=OY h.2 j k (by simpa using a)
  grind
def DX(l:Nat):List Aa→Prop
 |[]=>True
 |k::ks=>k.1≤l∧DX l ks
theorem KP{l:Nat}:∀{ks:List Aa},DX l ks→∀k∈ks,k.1≤l
 |q::ks,h,k,a=>by
  rcases YG.1 a with rfl|a
  ·exact h.1
  ·exact KP h.2 k a
def FF:Nat→List Nat
 |0=>[]
 |n+1=>FF n++[n]
theorem ND:∀{n i:Nat},i<n→i∈FF n
 |n+1,i,h=>by
  simp only[FF,Jg,Jt]
  rcases Yq i n with a|a
  ·exact .inl (ND a)
  grind
theorem Q9{P:Program}{T:Nat→Option TI}{n:Nat}{f:FuncId}{fn:Func}(u:List ResultVar)(c:Code){l:Nat}{xs:List AV}{H:Hp}{a:AV→Hp→Prop}(ks:List Aa)(g:List Nat)(os:Nat)(θ:Nat→AV)(ys:List AV)(hs:List (Aa×Blk))(Y:AV)(e:List Blk){Y':AV}{bs':List Blk}
  (A:P.funcs[f]?=some fn) (hb:fn.body=some c) (d:(fn.name== "runtime.NumGoroutine")=false) (D:fn.ntmps=n) (F:fn.results.toList=u) (G:xs.length≤n) (x:AG P T) (s:ks.length=os)
  (p:DX l ks) (q:ks.Nodup) (j:D2 os hs=true) (w:Ej H (A0 l ks g θ H) hs 0 ks) (t:Ab (A0 l ks g θ H) ys=xs) (m:e.length=os) (o:∀b∈e,b.live=true) (z:∀r,DJ l ks g r→ren r Y=Y') (v:∀r,DJ l ks g r→Bh r 0 e=bs')
  (h:∀C,CxOk C→C.outs=os→C.fx=FF os→C.l=l→C.H0=H→C.θ=θ→C.κ=Cc l ks→C.no=(fun k=>k∈ks)→LW P n C c (Ac (BJ 0 ys) hs) (FQ T u os (fun y b=>y=Y∧b=e)))
  (E:a Y' (BC H ks bs')):ZaR P f l xs H a:=by
 subst s
 exact RB u c ks g (FF ks.length) θ ys hs Y e A hb d D F G x (KP p) q (fun i hi=>ND hi) (Nl j) (N3 j) (fun i k B=>by have:=OY w i k B;rw[YH]at this;exact this) t m o z v h E
theorem RK{α:Type}{e e':α→List D}{xs:List α}{j sz:Nat}{x:α}(b:xs[j]?=some x)(hl:∀x,(e x).length=sz)(he:∀x,e x=e' x):CW (An e xs) (j*sz) ((e' x).map .d):=by
 have a:j<xs.length:=by
  grind
 have:=Q8 (z:=x) a hl he
 grind
def UM:Code→Operand
 |.cond o _ _=>o
 |_=>.tmp 0
def Dt(c:Code)(k:Nat):Option Nat:=match Dp c k with|some (d,_,_)=>d|none=>none
def callF(c:Code)(k:Nat):Operand:=match Dp c k with|some (_,f,_)=>f|none=>.tmp 0
def EB(c:Code)(k:Nat):List Operand:=match Dp c k with|some (_,_,xs)=>xs|none=>[]
theorem S3{P:Program}{n:Nat}{C:Cx}{Q:Exit→St→Prop}(m:CxOk C){os:Nat}{fx:List Nat}(p:C.outs=os)(o:C.fx=fx){c:Code}{k:Nat}{ss:List (Nat×AV)}{hs:List (Aa×Blk)}
  (f:FuncId) (first a xs:List AV) (i:Dp c k=some (Dt c k,callF c k,EB c k)) (q:ev (AB ss) (callF c k)=.fn (.func f) first a) (l:first++(EB c k).map (ev (AB ss))++a=xs) (ks:List Aa) (hb:List (Aa×Blk)) (e:(ks.map fun k=>(k,Ae hs k))=hb)
  (x:AV) (Ad:List (Aa×Blk)) (fr fl:List Aa) (g:(Cm os Ad&&G2 fr Ad&&GD fr fx&&DQ hs&&GI n (Dt c k)&&ks.all (AQ os))=true) (j:Cy C Ad) (d:EI (Ae hs) fl)
  (b:∀r:Ren,r.θ=C.θ→r.H0=C.H0→r.κ=C.κ→r.no=C.no→EA P C.l r f xs hb x Ad fr)
  (h:LO P n C c (k+1) (Ac (Dx (Dt c k) x (B6 fr ss)) (Ad++Bq (Ad.map (·.1)) fr fl hs)) Q):LO P n C c k (Ac ss hs) Q:=
 TN m p o _ _ _ i f first a xs q l ks hb e x Ad fr fl g j d b h
end Go.Eng
namespace Go.Eng
open Go
set_option linter.all false
end Go.Eng
namespace Go.Eng
set_option linter.all false
open Go Go.RowKit Go.Shelf
theorem Sv{i:Int}{len sz:Nat}(a:0≤i)(h:i<len):IA i len 0 sz (i.toNat*sz):=⟨a,h,by simp⟩
end Go.Eng
namespace Go.Eng
set_option linter.all false
theorem Kx{α:Type}{l:List α}{p:α→Bool}:((match l.findIdx? p with|some k=>(k:Int)|none=>-1)≥0)↔l.any p=true:=by
 rw[Y0]
 cases h:l.findIdx? p with
 |none=>
  rw[List.findIdx?_eq_none_iff]at h
  constructor
  ·intro e;exact absurd e (by decide)
  ·rintro⟨x,d,a⟩;rw[h x d]at a;cases a
 |some k=>
  obtain⟨b,c,_⟩:=Mk.1 h
  exact⟨fun _=>⟨l[k],List.getElem_mem b,c⟩,fun _=>Int.natCast_nonneg k⟩
theorem M4{α:Type}{sz:Nat}{e e':α→List D}{y:α}(C:List AV)(hl:∀x,(e x).length=sz)(he:∀x,e x=e' x):CI sz C (.d (.list [e' y])) 1 (An e [y]):=by
 rw[S9,he];exact Tp C (by rw[←he];exact hl y)
theorem TR{α:Type}{e:α→List D}{z:α}{c:List AV}(a:(e z).map .d=c)(m:Nat):(List.replicate m c).flatten=An e (List.replicate m z):=by
 subst a
 induction m with
 |zero=>rfl
 |succ m b=>rw[Jm,El,b,Jm,Kj]
end Go.Eng
namespace Go.Eng
set_option linter.all false
open Go Go.RowKit
section
variable {P:Program} {T:Nat→Option TI} {n:Nat} {C:Cx} {τ:St} {Q:Exit→St→Prop}
theorem TW(f:CxOk C){os:Nat}{fx:List Nat}(k:C.outs=os)(i:C.fx=fx){c:Code}(a:AT)(lf:Lf)(q:Ren→(St→Prop)→Prop)
  (m:∀r Φ,AN r os a τ (fun τ _=>Fw fx lf τ Φ)=q r Φ) (h:∀r,r.θ=C.θ→r.H0=C.H0→r.κ=C.κ→r.no=C.no→q r (fun τ'=>LW P n C c τ' Q)):LW P n C c τ Q:=by
 subst k
 subst i
 intro γ σ l j
 have e:=h (C.r γ) rfl rfl rfl rfl
 rw[←m]at e
 obtain⟨y,w,x,g,b,d⟩:=Bx (n:=n) f a e j
 obtain⟨u,z,v,o,p,s,t⟩:=Gn (n:=n) f g l b
 exact AI.weak (p u v o s) (d.trans t)
end
end Go.Eng
