import Derived.Test.YthgmbpciandpiaaGreatLx09
import Derived.Shelf.Spec.SlicesGrow
import Derived.Test.YthgmbpciandpiaaGreatLx00
namespace Go.Eng
structure Raw where
 num:Int
 wire:Int
 bits:Int
 data:ByteArray
deriving Inhabited,DecidableEq
mutual
inductive Val where
 |mk (kind bits:Int) (text:ByteArray) (list:List Val) (pairs:List Pr) (slots:List Slt) (raws:List Raw)
inductive Pr where
 |mk (key val:Val)
inductive Slt where
 |mk (num:Int) (val:Val)
end
inductive Msk where
 |mk (num:Int) (subs:List Msk)
instance:Inhabited Val:=⟨.mk 0 0 .empty [] [] [] []⟩
instance:Inhabited Pr:=⟨.mk default default⟩
instance:Inhabited Slt:=⟨.mk 0 default⟩
instance:Inhabited Msk:=⟨.mk 0 []⟩
def Val.kind:Val→Int|.mk k _ _ _ _ _ _=>k
def Val.bits:Val→Int|.mk _ b _ _ _ _ _=>b
def Val.text:Val→ByteArray|.mk _ _ t _ _ _ _=>t
def Val.list:Val→List Val|.mk _ _ _ l _ _ _=>l
def Val.pairs:Val→List Pr|.mk _ _ _ _ p _ _=>p
def Val.slots:Val→List Slt|.mk _ _ _ _ _ s _=>s
def Val.raws:Val→List Raw|.mk _ _ _ _ _ _ r=>r
def Pr.key:Pr→Val|.mk k _=>k
def Pr.val:Pr→Val|.mk _ v=>v
def Slt.num:Slt→Int|.mk n _=>n
def Slt.val:Slt→Val|.mk _ v=>v
def Msk.num:Msk→Int|.mk n _=>n
def Msk.subs:Msk→List Msk|.mk _ s=>s
def AW(s:ByteArray):List D:=[.str s]
def Cr(s:Int):List D:=[.int .i64 s]
def AU(s:Bool):List D:=[.bool s]
def AZ(x:Raw):List D:=[.int .i64 x.num,.int .i64 x.wire,.int .u64 x.bits,.str x.data]
mutual
def AM:Val→List D
 |.mk k b t l p s r=>[.int .i64 k,.int .u64 b,.str t,.list (MP l),.list (Ls p),.list (M3 s),.list (r.map AZ)]
def MP:List Val→List (List D)
 |[]=>[]
 |v::vs=>AM v::MP vs
def Ay:Pr→List D
 |.mk k v=>AM k++AM v
def Ls:List Pr→List (List D)
 |[]=>[]
 |v::vs=>Ay v::Ls vs
def Ap:Slt→List D
 |.mk n v=>.int .i64 n::AM v
def M3:List Slt→List (List D)
 |[]=>[]
 |v::vs=>Ap v::M3 vs
end
mutual
def NT:Msk→List D
 |.mk n s=>[.int .i64 n,.list (RS s)]
def RS:List Msk→List (List D)
 |[]=>[]
 |v::vs=>NT v::RS vs
end
theorem Zvs(l:List Val):MP l=l.map AM:=by induction l with|nil=>rfl|cons v l a=>simp[MP,a]
theorem ZzO(l:List Pr):Ls l=l.map Ay:=by induction l with|nil=>rfl|cons v l a=>simp[Ls,a]
theorem Zts(l:List Slt):M3 l=l.map Ap:=by induction l with|nil=>rfl|cons v l a=>simp[M3,a]
theorem Zsz(l:List Msk):RS l=l.map NT:=by induction l with|nil=>rfl|cons v l a=>simp[RS,a]
def Ag(x:Val):List D:=[.int .i64 x.kind,.int .u64 x.bits,.str x.text,.list (x.list.map AM),.list (x.pairs.map Ay),.list (x.slots.map Ap),.list (x.raws.map AZ)]
def Dt(x:Pr):List D:=[.int .i64 x.key.kind,.int .u64 x.key.bits,.str x.key.text,.list (x.key.list.map AM),.list (x.key.pairs.map Ay),.list (x.key.slots.map Ap),.list (x.key.raws.map AZ),.int .i64 x.val.kind,.int .u64 x.val.bits,.str x.val.text,.list (x.val.list.map AM),.list (x.val.pairs.map Ay),.list (x.val.slots.map Ap),.list (x.val.raws.map AZ)]
def B2(x:Slt):List D:=[.int .i64 x.num,.int .i64 x.val.kind,.int .u64 x.val.bits,.str x.val.text,.list (x.val.list.map AM),.list (x.val.pairs.map Ay),.list (x.val.slots.map Ap),.list (x.val.raws.map AZ)]
def ZYO(x:Msk):List D:=[.int .i64 x.num,.list (x.subs.map NT)]
theorem F9(v:Val):AM v=Ag v:=by
 cases v;simp[AM,Ag,Zvs,ZzO,Zts,Val.kind,Val.bits,Val.text,Val.list,Val.pairs,Val.slots,Val.raws]
theorem Kq(v:Pr):Ay v=Dt v:=by cases v;simp[Ay,F9,Ag,Dt,Pr.key,Pr.val]
theorem GI(v:Slt):Ap v=B2 v:=by cases v;simp[Ap,F9,Ag,B2,Slt.num,Slt.val]
theorem ZVp(v:Msk):NT v=ZYO v:=by cases v;simp[NT,ZYO,Zsz,Msk.num,Msk.subs]
structure Typ where
 kind:Int
 name:ByteArray
deriving Inhabited,DecidableEq
def DS(x:Typ):List D:=[.int .i64 x.kind,.str x.name]
structure Nt where
 name:ByteArray
 val:Val
deriving Inhabited
def BU(x:Nt):List D:=[.str x.name,.int .i64 x.val.kind,.int .u64 x.val.bits,.str x.val.text,.list (x.val.list.map AM),.list (x.val.pairs.map Ay),.list (x.val.slots.map Ap),.list (x.val.raws.map AZ)]
structure Fld where
 num:Int
 name:ByteArray
 card:Int
 key:Int
 type:Typ
 union:ByteArray
 hasDefault:Bool
 dflt:Val
 notes:List Nt
deriving Inhabited
def An(x:Fld):List D:=[.int .i64 x.num,.str x.name,.int .i64 x.card,.int .i64 x.key,.int .i64 x.type.kind,.str x.type.name,.str x.union,.bool x.hasDefault,.int .i64 x.dflt.kind,.int .u64 x.dflt.bits,.str x.dflt.text,.list (x.dflt.list.map AM),.list (x.dflt.pairs.map Ay),.list (x.dflt.slots.map Ap),.list (x.dflt.raws.map AZ),.list (x.notes.map BU)]
structure Spn where
 lo:Int
 hi:Int
deriving Inhabited,DecidableEq
def CC(x:Spn):List D:=[.int .i64 x.lo,.int .i64 x.hi]
structure By where
 b:UInt8
deriving Inhabited,DecidableEq
def By.v(x:By):Int:=x.b.toNat
def eBy(x:By):List D:=[.int .u8 x.v]
structure Msg where
 name:ByteArray
 fields:List Fld
 reserved:List Spn
 gone:List ByteArray
 notes:List Nt
deriving Inhabited
def AB(x:Msg):List D:=[.str x.name,.list (x.fields.map An),.list (x.reserved.map CC),.list (x.gone.map AW),.list (x.notes.map BU)]
structure Itm where
 name:ByteArray
 num:Int
 notes:List Nt
deriving Inhabited
def Cw(x:Itm):List D:=[.str x.name,.int .i64 x.num,.list (x.notes.map BU)]
structure Enm where
 name:ByteArray
 opn:Bool
 items:List Itm
 reserved:List Spn
 notes:List Nt
deriving Inhabited
def Bz(x:Enm):List D:=[.str x.name,.bool x.opn,.list (x.items.map Cw),.list (x.reserved.map CC),.list (x.notes.map BU)]
structure Mth where
 name:ByteArray
 inn:ByteArray
 out:ByteArray
 shape:Int
 notes:List Nt
deriving Inhabited
def G0(x:Mth):List D:=[.str x.name,.str x.inn,.str x.out,.int .i64 x.shape,.list (x.notes.map BU)]
structure Svc where
 name:ByteArray
 methods:List Mth
 notes:List Nt
deriving Inhabited
def C4(x:Svc):List D:=[.str x.name,.list (x.methods.map G0),.list (x.notes.map BU)]
structure Scm where
 messages:List Msg
 enums:List Enm
 services:List Svc
deriving Inhabited
def Al(x:Scm):List D:=[.list (x.messages.map AB),.list (x.enums.map Bz),.list (x.services.map C4)]
structure Fil where
 name:ByteArray
 space:ByteArray
 imports:List ByteArray
 messages:List Msg
 enums:List Enm
 services:List Svc
deriving Inhabited
def Z0g(x:Fil):List D:=[.str x.name,.str x.space,.list (x.imports.map AW),.list (x.messages.map AB),.list (x.enums.map Bz),.list (x.services.map C4)]
structure Prb where
 dfn:ByteArray
 num:Int
 err:Int
deriving Inhabited,DecidableEq
def AA(x:Prb):List D:=[.str x.dfn,.int .i64 x.num,.int .i64 x.err]
structure Stp where
 num:Int
 pos:Int
 hasKey:Bool
 key:Val
deriving Inhabited
structure Edt where
 path:List Stp
 kind:Int
 val:Val
deriving Inhabited
class Mv (V:Type) where
 q:Bool
 e:V→List D
 z:V
def A5{V:Type}[Mv V](p:ByteArray×V):List D:=.str p.1::Mv.e p.2
instance:Mv Bool:=⟨false,AU,false⟩
instance:Mv Int:=⟨false,Cr,0⟩
instance:Mv Msg:=⟨true,AB,⟨⟨#[]⟩,[],[],[],[]⟩⟩
instance:Mv (List Int):=⟨false,fun x=>[.list (x.map Cr)],[]⟩
instance (V:Type) [Mv V]:Mv (List (ByteArray×V)):=⟨false,fun m=>[.map (Mv.q V) (m.map A5)],[]⟩
structure Web where
 messages:List (ByteArray×Msg)
 enums:List (ByteArray×Bool)
deriving Inhabited
def Jw(x:Web):List D:=[.map true (x.messages.map A5),.map false (x.enums.map A5)]
structure Lst where
 dfn:ByteArray
 l:List Prb
deriving Inhabited
structure Acs where
 m:Msg
 s:Scm
deriving Inhabited
def Cc(x:Acs):List D:=[.str x.m.name,.list (x.m.fields.map An),.list (x.m.reserved.map CC),.list (x.m.gone.map AW),.list (x.m.notes.map BU),.list (x.s.messages.map AB),.list (x.s.enums.map Bz),.list (x.s.services.map C4)]
structure Lnk where
 files:List Fil
 f:Fil
 known:List ByteArray
 messages:List ByteArray
 enums:List Enm
deriving Inhabited
def ZY8:Raw:=⟨0,0,0,⟨#[]⟩⟩
def LS:Val:=.mk 0 0 ⟨#[]⟩ [] [] [] []
def zPr:Pr:=.mk LS LS
def ZZX:Slt:=.mk 0 LS
def Z0f:Msk:=.mk 0 []
def ZZH:Typ:=⟨0,⟨#[]⟩⟩
def zNt:Nt:=⟨⟨#[]⟩,LS⟩
def ZZt:Fld:=⟨0,⟨#[]⟩,0,0,ZZH,⟨#[]⟩,false,LS,[]⟩
def ZZi:Spn:=⟨0,0⟩
def zBy:By:=⟨0⟩
def ZZV:Msg:=⟨⟨#[]⟩,[],[],[],[]⟩
def ZZR:Itm:=⟨⟨#[]⟩,0,[]⟩
def ZZU:Enm:=⟨⟨#[]⟩,false,[],[],[]⟩
def ZZw:Mth:=⟨⟨#[]⟩,⟨#[]⟩,⟨#[]⟩,0,[]⟩
def ZZ8:Svc:=⟨⟨#[]⟩,[],[]⟩
def Z0e:Fil:=⟨⟨#[]⟩,⟨#[]⟩,[],[],[],[]⟩
def ZZ2:Prb:=⟨⟨#[]⟩,0,0⟩
end Go.Eng
namespace Go.Eng
set_option linter.all false
open Go Go.RowKit
def H6:List Nat→Code→Code
 |[],c=>c
 |0::p,.seq a _=>H6 p a
 |_::p,.seq _ b=>H6 p b
 |0::p,.cond _ a _=>H6 p a
 |_::p,.cond _ _ b=>H6 p b
 |_::p,.block _ c=>H6 p c
 |_::p,.loop c=>H6 p c
 |_::p,.scope c=>H6 p c
 |_,c=>c
def Aw(f:Func):Code:=f.body.getD .skip
def Af{α:Type}(e:α→List D)(xs:List α):List AV:=((xs.map e).flatten).map .d
theorem A2{α:Type}(e:α→List D)(xs:List α):Gh (Af e xs):=fun x a=>by
 obtain⟨d,_,rfl⟩:=YI.1 a;rfl
theorem Fb{α:Type}{e:α→List D}{sz:Nat}(he:∀x,(e x).length=sz)(xs:List α):(Af e xs).length=xs.length*sz:=by
 unfold Af
 induction xs with
 |nil=>simp
 |cons x xs a=>simp only[YC,YS,Jr,Yo,he,DW,YT]at a⊢;omega
theorem TT{α:Type}(e:α→List D)(xs ys:List α):Af e (xs++ys)=Af e xs++Af e ys:=by simp[Af]
section
variable {P:Program} {n:Nat} {C:Cx} {τ:St} {Q:Exit→St→Prop}
theorem Zxt{c:Code}(id:Nat)(x:Code)(b:c=.block id x)(h:LW P n C x τ (fun e τ'=>match e with|.exit i=>(match Nat.beq i id with|true=>Q .normal τ'|false=>Q (.exit i) τ')|e=>Q e τ')):LW P n C c τ Q:=b▸ZyV (h.mono fun e τ' a=>by
 cases e with
 |exit i=>
  simp only at a⊢
  split at a
  ·rename_i he;rw[Yg (Yb he)];exact a
  ·rename_i he;rw[Yj (by rintro rfl;simp at he)];exact a
 |_=>exact a)
end
theorem Zjm{P:Program}{T:Nat→Option TI}{n:Nat}{f:FuncId}{fn:Func}(e:List ResultVar)(c:Code){l:Nat}{xs:List AV}{H:Hp}{a:AV→Hp→Prop}(θ:Nat→AV)(ys:List AV)
  (j:P.funcs[f]?=some fn) (hb:fn.body=some c) (b:(fn.name== "runtime.NumGoroutine")=false) (o:fn.ntmps=n) (r:fn.results.toList=e) (s:xs.length≤n) (g:Bg P T)
  (d:Aq ⟨fun k=>(l+1,k.2),fun _=>0,θ,H,fun _=>False⟩ ys=xs) (h:∀B:Base,LW P n (WS l θ H B) c (Ab (D8 0 ys) []) (FQ T e 0 (fun y _=>a y H))):ZcF P f l xs H a:=
 Zpx e (WS l θ H) (γ:=fun _=>0) (LPost:=fun y _=>a y H) j hb b o r s g (fun B=>gv l B θ H) (fun B=>⟨rfl,rfl,rfl,trivial⟩) (fun B=>d) (fun _=>rfl) (fun _=>rfl) (fun B k m=>by simp[AI,Fi]at m) (fun B i hi=>absurd hi (GC _))
  (fun B γ y u t _ q p hy=>by rw[hy rfl,ZAr p];exact q) h
theorem ZJl{α:Type}(e:α→List D)(xs:List α):BN ((xs.map e).length:Nat) xs.length:=by simp[BN]
theorem Zxe{α:Type}{e e':α→List D}{xs:List α}{i:Nat}{x:α}(a:xs[i]?=some x)(he:∀x,e x=e' x):Iw (xs.map e) (i:Nat) (e' x):=⟨by omega,by simp[a,he]⟩
theorem ZLC{α:Type}{e e':α→List D}{xs:List α}{i:Nat}{z:α}(hi:i<xs.length)(he:∀x,e x=e' x):Iw (xs.map e) (i:Nat) (e' (xs.getD i z)):=by
 refine Zxe ?_ he
 grind
theorem th{a r:Int}(h:a=r)(b: -9223372036854775808≤r)(c:r<9223372036854775808):CJ .i64 a r:=by
 subst h;exact IntWalk.i64_in _ ⟨b,by omega⟩
theorem ZU4{i len sz:Nat}(h:i<len):LC (i:Nat) len 0 sz (i*sz):=⟨by omega,by omega,by simp⟩
theorem ZA2{sz:Nat}{e:List D}(C:List AV)(he:e.length=sz):Em sz C (.d (.list [e])) 1 (e.map .d):=by
 refine⟨Yq.2 fun x a=>?_,fun q b=>?_,rfl,by simp⟩
 ·obtain⟨d,_,rfl⟩:=YI.1 a;rfl
 grind
theorem TO{α:Type}{sz:Nat}{e:α→List D}(C:List AV)(xs:List α)(he:∀x,(e x).length=sz):Em sz C (.d (.list (xs.map e))) xs.length (Af e xs):=by
 refine⟨Yq.2 fun x a=>?_,fun q b=>?_,by simp,rfl⟩
 ·obtain⟨d,_,rfl⟩:=YI.1 a;rfl
 grind
theorem ZAZ{α:Type}{sz:Nat}{e:α→List D}(k:Ad)(g:Nat)(xs:List α)(he:∀x,(e x).length=sz):Em sz (Af e xs) (.ref k g 0 xs.length) xs.length (Af e xs):=by
 refine⟨Yq.2 fun x a=>?_,rfl,by rw[Fb he];simp,by rw[He,Lk,←Fb he xs,Lc]⟩
 obtain⟨d,_,rfl⟩:=YI.1 a;rfl
theorem ZBu{α:Type}{sz byt:Nat}{e:α→List D}(xs ys:List α){a:Nat}(he:∀x,(e x).length=sz)(b:xs.length+ys.length=a)(hb:a*byt≤140737488355328):
  Ix (Af e xs) 0 xs.length ys.length sz byt (Af e ys) (Af e (xs++ys)) a:=
 ⟨by rw[Fb he,YJ],by rw[He,Lk,TT],b,hb⟩
theorem ZCd{α:Type}(e:α→List D)(x:α):Af e [x]=(e x).map .d:=by simp[Af]
theorem Zs3{α:Type}{sz:Nat}{e:α→List D}(xs:List α)(b:sz≠0)(he:∀x,(e x).length=sz):K8 (Af e xs) 0 xs.length sz (xs.map e):=
 ⟨by simp,b,fun q a=>by obtain⟨x,_,rfl⟩:=YI.1 a;exact he x,by rw[Fb he];simp,by rw[He,Lk,←Fb he xs,Lc];rfl⟩
theorem ZnQ{α:Type}{e e':α→List D}{xs:List α}{i:Int}{z:α}(a:0≤i)(hi:i<xs.length)(he:∀x,e x=e' x):Iw (xs.map e) i (e' (xs.getD i.toNat z)):=by
 have h:=ZLC (e:=e) (e':=e') (xs:=xs) (i:=i.toNat) (z:=z) (by omega) he
 grind
theorem ZVO(s:ByteArray):s.data.toList.length=s.size:=by simp
theorem ZLd{s:ByteArray}{i:Nat}{x:UInt8}(h:s.data.toList[i]?=some x):II s (i:Nat) (x.toNat:Nat):=⟨by omega,x,by simpa using h,rfl⟩
theorem ZxU{s:ByteArray}{i:Nat}(h:i<s.size):II s (i:Nat) ((s.data.toList.getD i 0).toNat:Nat):=by
 refine ZLd ?_
 rw[Ym,Ya (by rw[ZVO];exact h)];rfl
theorem OS{α:Type}{sz byt c:Nat}{e:α→List D}{news:List AV}(xs ys:List α)(he:∀x,(e x).length=sz)(a:ys.length=c)(b:news=Af e ys)(hb:(xs.length+ys.length)*byt≤140737488355328):
  Ix (Af e xs) 0 xs.length c sz byt news (Af e (xs++ys)) (xs++ys).length:=by
 subst a;subst b
 exact ZBu xs ys he (by rw[Yo]) (by rw[Yo];exact hb)
section
variable {P:Program} {l:Nat} {r:Ren} {f:FuncId} {xs xs':List AV} {hb:List (Ad×Blk)} {x x':AV}
def CS(P:Program)(l:Nat)(no:Ad→Prop)(H:Hp)(c:AV)(e:List AV)(y:AV):Prop:=
 ∃f first a,c=.fn (.func f) first a∧∀l' b,l≤l'→(∀k:Ad,k.1≤l→¬no k→b k=H k)→ZcF P f l' (first++e++a) b (fun g d=>g=y∧d=b)
theorem ZCa{i:Nat}{c:AV}(j:r.θ i=c)(h:CS P l r.no r.H0 c xs' x')(d:Aq r xs=xs')(e:ren r x=x'):Px P l r i xs hb x:=by
 obtain⟨f,first,a,rfl,h⟩:=h
 exact⟨f,first,a,j,fun b _ g=>by rw[d,e];exact h (l+1) b (Nat.le_succ l) g⟩
end
section
variable {P:Program} {T:Nat→Option TI} {n:Nat} {C:Cx} {τ:St} {Q:Exit→St→Prop}
theorem ZJq(g:CxOk C)(k:Bg P T)(hm:P.follows .mixedOrders=true){os:Nat}{fx:List Nat}(d:C.outs=os)(i:C.fx=fx){c:Code}(a:AT)(lf e:Lf)(f:List ResultVar){b:AV→List Blk→Prop}(q:Ren→(Exit→St→Prop)→(AV→List Blk→Prop)→Prop)
  (l:∀r Q b,Db P T C.l n os r c a τ (KB T f os fx r b lf e Q)=q r Q b) (j:∀τ,FQ T f os b .ret τ→Q .ret τ) (h:∀r,r.θ=C.θ→r.H0=C.H0→r.κ=C.κ→r.no=C.no→q r Q b):LW P n C c τ Q:=
 ZNN g k hm a lf e (by rw[d];exact j) (fun γ=>by rw[d,i,l];exact h _ rfl rfl rfl rfl)
theorem ZMt(e:CxOk C)(g:Bg P T)(hm:P.follows .mixedOrders=true){os:Nat}(f:C.outs=os){c:Code}(a:AT)(d:List ResultVar){b:AV→List Blk→Prop}(q:Ren→(AV→List Blk→Prop)→Prop)
  (i:∀r b,Db P T C.l n os r c a τ (KF T d os b)=q r b) (h:∀r,r.θ=C.θ→r.H0=C.H0→r.κ=C.κ→r.no=C.no→q r b):LW P n C c τ (FQ T d os b):=by
 subst f
 exact ZRB e g hm a (fun γ=>by rw[i];exact h _ rfl rfl rfl rfl)
mutual
theorem Zyy{H:Hp}:∀(x:AV) {a:AT} {K c:AV→AT→Prop},(∀y a,K y a→c y a)→frz H x a K→frz H x a c
 |.d x,a,K,c,b,h=>b _ _ h
 |.e0,a,K,c,b,h=>b _ _ h
 |.agg xs,a,K,c,b,h=>ZkR xs (fun ys a h=>b _ _ h) h
 |.ref k g off m,a,K,c,b,h=>by
  unfold frz at h⊢
  grind
 |.top,a,K,c,b,h=>by simp only[frz]at h
 |.p _,a,K,c,b,h=>by simp only[frz]at h
 |.ptr _ _ _,a,K,c,b,h=>by simp only[frz]at h
 |.mp k g,a,K,c,b,h=>by
  unfold frz at h⊢
  grind
 |.iptr _ _,a,K,c,b,h=>by simp only[frz]at h
 |.ifc _ _ _,a,K,c,b,h=>b _ _ h
 |.fn _ _ _,a,K,c,b,h=>by simp only[frz]at h
 |.tup _,a,K,c,b,h=>by simp only[frz]at h
theorem ZkR{H:Hp}:∀(xs:List AV) {a:AT} {K b:List AV→AT→Prop},(∀y a,K y a→b y a)→Iv H xs a K→Iv H xs a b
 |[],a,K,b,c,h=>c _ _ h
 |x::xs,a,K,b,c,h=>by
  simp only[Iv]at h⊢
  exact Zyy x (fun y a h=>ZkR xs (fun ys a h=>c _ _ h) h) h
end
end
theorem Kf{α:Type}(e:α→List D)(x:α)(xs:List α):Af e (x::xs)=(e x).map .d++Af e xs:=by simp[Af]
theorem TD{α:Type}{e:α→List D}{sz:Nat}(hl:∀x,(e x).length=sz):∀(xs:List α) (j:Nat),(Af e xs).drop (j*sz)=Af e (xs.drop j)
 |[],j=>by simp[Af]
 |x::xs,0=>by simp
 |x::xs,j+1=>by
  have a:((e x).map AV.d).length=sz:=by rw[YC,hl]
  rw[Kf,YT,NI,QO,←List.drop_drop,List.drop_left' a,TD hl xs j]
  rfl
theorem TE{α:Type}{e:α→List D}{sz:Nat}(hl:∀x,(e x).length=sz):∀(xs:List α) (j:Nat),(Af e xs).take (j*sz)=Af e (xs.take j)
 |[],j=>by simp[Af]
 |x::xs,0=>by simp[Af]
 |x::xs,j+1=>by
  have a:((e x).map AV.d).length=sz:=by rw[YC,hl]
  rw[Kf,List.take_succ_cons,Kf,YT,NI,QO,List.take_append,a,Nat.add_sub_cancel_left,TE hl xs j,Jv (by omega)]
theorem ZIQ{α:Type}{xs:List α}{j:Nat}{z:α}(a:j<xs.length):xs.drop j=xs.getD j z::xs.drop (j+1):=by
 rw[Jt a,Ym,Ya a];rfl
theorem Zh0{α:Type}{e e':α→List D}{xs:List α}{j sz:Nat}{z:α}(a:j<xs.length)(hl:∀x,(e x).length=sz)(he:∀x,e x=e' x):Gc (Af e xs) (j*sz) ((e' (xs.getD j z)).map .d):=by
 unfold Gc
 rw[TD hl,ZIQ (z:=z) a,Kf,he,List.take_left]
theorem ZHj{α:Type}{e:α→List D}{xs:List α}{j sz:Nat}{y:α}(b:j<xs.length)(hl:∀x,(e x).length=sz):K9 (Af e xs) (j*sz) ((e y).map .d) (Af e (xs.set j y)):=by
 have a:((e y).map AV.d).length=sz:=by rw[YC,hl]
 have c:(j+1)*sz≤xs.length*sz:=YY _ b
 rw[YT,NI]at c
 refine⟨by rw[a,Fb hl];omega,?_⟩
 rw[a,TE hl,show j*sz+sz=(j+1)*sz from by rw[YT,NI],TD hl,List.set_eq_take_append_cons_drop,Yg b,TT,Kf,Fu]
def Do(r:Ren):List (Ad×Blk)→Hp→Hp
 |[],H=>H
 |(k,b)::rest,H=>Do r rest (updH H (r.κ k) (AL r k b))
def HO(P:Program)(l:Nat)(r:Ren)(f:FuncId)(xs:List AV)(d:List (Ad×Blk))(x:AV)(Ax:List (Ad×Blk))(fr:List Ad):Prop:=
 ∀a,(∀p∈d,(a (r.κ p.1)).g=r.γ p.1+p.2.g∧(p.2.live=true→a (r.κ p.1)=AL r p.1 p.2))→(∀k:Ad,k.1≤l→¬r.no k→a k=r.H0 k)→
  ZcF P f (l+1) (Aq r xs) a (fun y b=>∃c:Ad→Nat,(∀k,k∉fr→c k=r.γ k)∧y=ren ⟨r.κ,c,r.θ,r.H0,r.no⟩ x∧b=Do ⟨r.κ,c,r.θ,r.H0,r.no⟩ Ax a)
mutual
def GL(fr:List Ad):AV→Bool
 |.ref k _ _ _=>fr.any (BL k)
 |.ptr k _ _=>fr.any (BL k)
 |.mp k _=>fr.any (BL k)
 |.fn _ xs ys=>HD fr xs||HD fr ys
 |.agg xs=>HD fr xs
 |.tup xs=>HD fr xs
 |.top=>false
 |.d _=>false
 |.e0=>false
 |.p _=>false
 |.iptr _ _=>false
 |.ifc _ _ _=>false
def HD(fr:List Ad):List AV→Bool
 |[]=>false
 |x::xs=>GL fr x||HD fr xs
end
def Ei(fr:List Ad):List (Nat×AV)→List (Nat×AV)
 |[]=>[]
 |(j,x)::r=>(j,match GL fr x with|true=>.top|false=>x)::Ei fr r
def Da(ks fr fl:List Ad):List (Ad×Blk)→List (Ad×Blk)
 |[]=>[]
 |(k,b)::r=>match ks.any (BL k),fl.any (BL k)||!HD fr b.cells with
  |false,true=>(k,b)::Da ks fr fl r
  |_,_=>Da (k::ks) fr fl r
def GR:Option Nat→AV→List (Nat×AV)→List (Nat×AV)
 |some d,x,r=>(d,x)::r
 |none,_,r=>r
def BS(os:Nat)(k:Ad):Bool:=Nat.beq k.1 1||(Nat.beq k.1 0&&Nat.ble (k.2+1) os)
def DJ(os:Nat):List (Ad×Blk)→Bool
 |[]=>true
 |(k,b)::r=>BS os k&&b.live&&!(r.any fun p=>BL k p.1)&&DJ os r
mutual
theorem Zi6{r:Ren}{b:Ad→Nat}{fr:List Ad}(a:∀k,k∉fr→b k=r.γ k):∀(x:AV),GL fr x=false→ren ⟨r.κ,b,r.θ,r.H0,r.no⟩ x=ren r x
 |.ref k g off n,h=>by simp only[GL]at h;simp only[ren];rw[a k (Un h)]
 |.ptr k g off,h=>by simp only[GL]at h;simp only[ren];rw[a k (Un h)]
 |.mp k g,h=>by simp only[GL]at h;simp only[ren];rw[a k (Un h)]
 |.fn f xs ys,h=>by
  simp only[GL,Jq]at h
  have c:=Mc a xs h.1
  have d:=Mc a ys h.2
  cases f<;>simp only[ren,c,d]
 |.agg xs,h=>by simp only[GL]at h;simp only[ren,Mc a xs h]
 |.tup xs,h=>by simp only[GL]at h;simp only[ren,Mc a xs h]
 |.top,_=>by simp[ren]
 |.d _,_=>by simp[ren]
 |.e0,_=>by simp[ren]
 |.p _,_=>by simp[ren]
 |.iptr _ _,_=>by simp[ren]
 |.ifc _ _ _,_=>by simp[ren]
theorem Mc{r:Ren}{b:Ad→Nat}{fr:List Ad}(a:∀k,k∉fr→b k=r.γ k):∀(xs:List AV),HD fr xs=false→Aq ⟨r.κ,b,r.θ,r.H0,r.no⟩ xs=Aq r xs
 |[],_=>by simp[Aq]
 |x::xs,h=>by
  simp only[HD,Jq]at h
  simp only[Aq,Zi6 a x h.1,Mc a xs h.2]
theorem Un{k:Ad}{fr:List Ad}(h:fr.any (BL k)=false):k∉fr:=fun hm=>by
 have:fr.any (BL k)=true:=YQ.2 ⟨k,hm,Cz.2 rfl⟩
 grind
end
def Cu:Code→Array Oper
 |.region _ ops _=>ops
 |_=>#[]
def zf:Code→Bool
 |.region _ _ false=>true
 |_=>false
def I3{α:Type}:Nat→List α→List α
 |0,l=>l
 |_+1,[]=>[]
 |n+1,_::l=>I3 n l
def I6{α:Type}:Nat→List α→List α
 |0,_=>[]
 |_+1,[]=>[]
 |n+1,x::l=>x::I6 n l
theorem gM{α:Type}:∀(n:Nat) (l:List α),I3 n l=l.drop n
 |0,l=>rfl
 |n+1,[]=>rfl
 |n+1,x::l=>gM n l
theorem T7{α:Type}:∀(n:Nat) (l:List α),I6 n l=l.take n
 |0,l=>rfl
 |n+1,[]=>rfl
 |n+1,x::l=>by rw[I6,T7 n l];rfl
def LO(P:Program)(n:Nat)(C:Cx)(c:Code)(k:Nat)(τ:St)(Q:Exit→St→Prop):Prop:=
 ∀γ σ a w,C.G γ→RG (C.r γ) C.l C.outs [] τ σ→R C.l n C.B σ a w→wpList P (Cu c) (fun e d w'=>∃b,Is n C (Q e) b∧R C.l n C.B b d w') ((Cu c).toList.drop k) a w
def GJ(c:Code)(k:Nat):Option (Option Nat×Operand×List Operand):=
 match Bw (Cu c).toList k with
 |some o=>(match o.guard,o.op with
  |none,.call cl=>(match cl.callee with|.value f=>some (o.dst,f,cl.args.toList)|_=>none)
  |_,_=>none)
 |none=>none
def Fs(C:Cx):List (Ad×Blk)→Prop
 |[]=>True
 |(k,_)::r=>match Nat.beq k.1 1 with|true=>Fs C r|false=>C.no (C.κ k)∧Fs C r
def Jc(H:Hp):List Ad→Prop
 |[]=>True
 |k::r=>Gh (H k).cells∧Jc H r
def Lz(fr:List Ad)(Ax:List (Ad×Blk)):Bool:=fr.all fun k=>Ax.any fun p=>BL k p.1
def My(fr:List Ad)(fx:List Nat):Bool:=fr.all fun k=>!(Nat.beq k.1 0&&fx.any (Nat.beq k.2))
def HI:List (Ad×Blk)→Bool
 |[]=>true
 |(_,b)::r=>Nat.beq b.g 0&&HI r
def ZXN:Option Nat→(Nat→AV)→AV→Nat→AV
 |some d,s,v=>upd s d v
 |none,s,_=>s
def Nb(n:Nat):Option Nat→Bool
 |some d=>Nat.ble (d+1) n
 |none=>true
section
variable {P:Program} {T:Nat→Option TI} {n:Nat} {C:Cx} {τ:St} {Q:Exit→St→Prop}
theorem Zq2{c:Code}(b:zf c=true)(h:LO P n C c 0 τ Q):LW P n C c τ Q:=by
 cases c with
 |region id ops d=>
  cases d with
  |true=>cases b
  |false=>
   obtain⟨g,rfl⟩:∃l:List Oper,ops=l.toArray:=⟨ops.toList,by simp⟩
   intro γ σ hg e a w f
   have:=h γ σ a w hg e f
   simp only[Cu,Lk]at this
   exact wp_region_lit this
 |_=>cases b
theorem ZP3(d:CxOk C)(A:Bg P T){os:Nat}{fx:List Nat}(y:C.outs=os)(v:C.fx=fx){c:Code}{k:Nat}(m:Nat)(a:AT)(lf:Lf)(q:Ren→(St→Prop)→Prop)
  (D:∀r Φ,Bu r os a τ (fun τ a=>GX P T C.l n r ((Cu c).toList.map (·.dst)) (I6 m (I3 k (Cu c).toList)) [] a (fun τ' env f=>Bu r os f (El env τ') (fun τ _=>FL fx lf τ Φ)) τ)=q r Φ)
  (h:∀r,r.θ=C.θ→r.H0=C.H0→r.κ=C.κ→r.no=C.no→q r (fun τ'=>LO P n C c (k+m) τ' Q)):LO P n C c k τ Q:=by
 subst y
 subst v
 intro γ σ g w hg x z
 have o:=h (C.r γ) rfl rfl rfl rfl
 rw[←D]at o
 obtain⟨O,p,M,u,i,j⟩:=Cn (n:=n) d a o x
 have e:(Cu c).toList.drop k=I6 m (I3 k (Cu c).toList)++(Cu c).toList.drop (k+m):=by
  rw[T7,gM,←List.drop_drop,Hi]
 rw[e]
 refine Md (d.ren γ) A (B:=C.B) _ (fun τ' l f S b w' I J K=>?_) _ [] p O M g w u i (j _ _ z)
 obtain⟨U,s,t⟩:=OI (n:=n) J
 obtain⟨W,R,V,f1,f2,f3⟩:=Cn (n:=n) d f I s
 obtain⟨L,X,N,E,F,G,H⟩:=Hx (n:=n) d f1 hg f2
 exact F L N b w' E G (H _ _ (f3 _ _ (t _ _ K)))
theorem ZO1(b:CxOk C)(A:Bg P T){os:Nat}{fx:List Nat}(y:C.outs=os)(v:C.fx=fx){c:Code}{k:Nat}(a:AT)(lf:Lf)(q:Ren→(Exit→St→Prop)→Prop)
  (D:∀r Φ,Bu r os a τ (fun τ a=>GX P T C.l n r ((Cu c).toList.map (·.dst)) (I3 k (Cu c).toList) [] a (fun τ' env d=>Bu r os d (El env τ') (fun τ _=>FL fx lf τ (Φ .normal))) τ)=q r Φ)
  (h:∀r,r.θ=C.θ→r.H0=C.H0→r.κ=C.κ→r.no=C.no→q r Q):LO P n C c k τ Q:=by
 subst y
 subst v
 intro γ σ f w hg x z
 have m:=h (C.r γ) rfl rfl rfl rfl
 rw[←D]at m
 obtain⟨N,p,M,u,g,i⟩:=Cn (n:=n) b a m x
 have e:(Cu c).toList.drop k=I3 k (Cu c).toList++[]:=by rw[gM,Iq]
 rw[e]
 refine Md (b.ren γ) A (B:=C.B) _ (fun τ' l d S j w' I J K=>?_) _ [] p N M f w u g (i _ _ z)
 obtain⟨U,s,t⟩:=OI (n:=n) J
 obtain⟨W,R,V,f1,f2,f3⟩:=Cn (n:=n) b d I s
 obtain⟨L,O,o,E,F,G,H⟩:=Hx (n:=n) b f1 hg f2
 unfold wpList
 exact⟨o,⟨L,O,o,E,F,G,Wk.refl _⟩,H _ _ (f3 _ _ (t _ _ K))⟩
theorem T8:∀{hs:List (Ad×Blk)},HI hs=true→∀k,(AI hs k).g=0
 |[],_,k=>rfl
 |(k',b)::r,h,k=>by
  simp only[HI,Yc]at h
  simp only[AI]
  split
  ·exact Yb h.1
  ·exact T8 h.2 k
theorem Zoc{k:Ad}{ks:List Ad}:ks.any (BL k)=true↔k∈ks:=by
 rw[YQ]
 exact⟨fun⟨q,a,b⟩=>by rw[Cz.1 b];exact a,fun h=>⟨k,h,Cz.2 rfl⟩⟩
theorem ZKm(a b:List (Ad×Blk))(k:Ad):AI (a++b) k=if k∈a.map (·.1)then AI a k else AI b k:=by
 induction a with
 |nil=>simp
 |cons p a f=>
  obtain⟨q,d⟩:=p
  simp only[In,AI,YS,YG]
  cases c:BL q k with
  |true=>rw[Yg (.inl (Cz.1 c).symm)]
  |false=>
   have:k≠q:=fun e=>by rw[Cz.2 e.symm]at c;cases c
   grind
theorem OJ{fr fl:List Ad}:∀(hs:List (Ad×Blk)) (ks:List Ad) (k:Ad),(k∈ks→AI (Da ks fr fl hs) k=Fi)∧(k∉ks→(AI (Da ks fr fl hs) k=AI hs k∧(k∈fl∨HD fr (AI hs k).cells=false))∨AI (Da ks fr fl hs) k=Fi)
 |[],ks,k=>⟨fun _=>rfl,fun _=>.inr rfl⟩
 |(q,b)::r,ks,k=>by
  simp only[Da]
  split
  ·rename_i d a
   have f:q∉ks:=fun hm=>by rw[Zoc.2 hm]at d;cases d
   simp only[AI]
   cases c:BL q k with
   |true=>
    have c:=Cz.1 c
    subst c
    refine⟨fun h=>absurd h f,fun _=>.inl ⟨rfl,?_⟩⟩
    simp only[YF,YN]at a
    rcases a with a|a
    ·exact .inl (Zoc.1 a)
    grind
   |false=>exact OJ r ks k
  ·obtain⟨d,a⟩:=OJ (fr:=fr) (fl:=fl) r (q::ks) k
   refine⟨fun h=>d (Ys _ h),fun h=>?_⟩
   by_cases c:k=q
   ·grind
   ·rcases a (fun hm=>(YG.1 hm).elim c h)with⟨i,j⟩|e
    ·have:BL q k=false:=by
      cases g:BL q k with
      |true=>exact absurd (Cz.1 g).symm c
      |false=>rfl
     simp only[AI,this]
     grind
    grind
theorem TB{r:Ren}:∀(Ax:List (Ad×Blk)) (H:Hp) (q:Ad),(∀p∈Ax,r.κ p.1≠q)→Do r Ax H q=H q
 |[],H,q,h=>rfl
 |(k,b)::rest,H,q,h=>by
  simp only[Do]
  rw[TB rest _ q (fun p a=>h p (Ys _ a)),AJ _ _ (fun e=>h (k,b) (YB ..) e.symm)]
theorem Zpj{r:Ren}{os:Nat}(d:∀q k:Ad,BS os q=true→BS os k=true→q≠k→r.κ q≠r.κ k):∀(Ax:List (Ad×Blk)) (H:Hp),DJ os Ax=true→∀k b,(k,b)∈Ax→Do r Ax H (r.κ k)=AL r k b∧AI Ax k=b∧BS os k=true∧b.live=true
 |[],H,_,k,b,hm=>by cases hm
 |(q,c)::rest,H,g,k,b,hm=>by
  simp only[DJ,Yc,YN]at g
  obtain⟨⟨⟨i,u⟩,j⟩,m⟩:=g
  have f:∀p∈rest,p.1≠q:=fun p a e=>by
   have:(rest.any fun p=>BL q p.1)=true:=YQ.2 ⟨p,a,Cz.2 e.symm⟩
   rw[this]at j;cases j
  have h:∀(l:List (Ad×Blk)),DJ os l=true→∀p∈l,BS os p.1=true:=by
   intro l
   induction l with
   |nil=>intro _ p a;cases a
   |cons p l w=>
    obtain⟨x,y⟩:=p
    intro hl p a
    simp only[DJ,Yc]at hl
    rcases YG.1 a with rfl|a
    ·exact hl.1.1.1
    ·exact w hl.2 p a
  simp only[Do]
  rcases YG.1 hm with e|hm
  ·cases e
   refine⟨?_,by simp only[AI,Cz.2 rfl],i,u⟩
   rw[TB rest _ _ (fun p a=>d _ _ (h rest m p a) i (f p a)),AO]
  ·obtain⟨n,o,s,t⟩:=Zpj d rest (updH H (r.κ q) (AL r q c)) m k b hm
   refine⟨n,?_,s,t⟩
   have:BL q k=false:=by
    cases v:BL q k with
    |true=>exact absurd (Cz.1 v).symm (f _ hm)
    |false=>rfl
   simp only[AI,this]
   exact o
theorem lu:∀{Ax:List (Ad×Blk)},Fs C Ax→∀p∈Ax,p.1.1≠1→C.no (C.κ p.1)
 |(k,b)::r,h,p,c,a=>by
  simp only[Fs]at h
  split at h
  ·rename_i d
   rcases YG.1 c with rfl|c
   ·exact absurd (Yb d) a
   ·exact lu h p c a
  ·rcases YG.1 c with rfl|c
   ·exact h.1
   ·exact lu h.2 p c a
theorem lH{H:Hp}:∀{ks:List Ad},Jc H ks→∀k∈ks,Gh (H k).cells
 |q::r,h,k,a=>by
  rcases YG.1 a with rfl|a
  ·exact h.1
  ·exact lH h.2 k a
theorem Gf{os:Nat}{k:Ad}(h:BS os k=true):k.1=1∨(k.1=0∧k.2<os):=by
 simp only[BS,YF,Yc]at h
 rcases h with h|⟨a,b⟩
 ·exact .inl (Yb h)
 ·exact .inr ⟨Yb a,Yh b⟩
theorem ZnR{fr:List Ad}:∀(ss:List (Nat×AV)) (j:Nat),AN (Ei fr ss) j=.top∨(AN (Ei fr ss) j=AN ss j∧GL fr (AN ss j)=false)
 |[],j=>.inl rfl
 |(i,x)::r,j=>by
  simp only[Ei,AN]
  split
  ·grind
  ·exact ZnR r j
theorem Zz3(hC:CxOk C){os:Nat}{fx:List Nat}(hO:C.outs=os)(hF:C.fx=fx){c:Code}{k:Nat}{ss:List (Nat×AV)}{hs:List (Ad×Blk)}(l:Option Nat)(fo:Operand)(aZ:List Operand)(m:GJ c k=some (l,fo,aZ))
  (f:FuncId) (first u xs:List AV) (hf:ev (AN ss) fo=.fn (.func f) first u) (hxs:first++aZ.map (ev (AN ss))++u=xs) (ks:List Ad) (J:List (Ad×Blk)) (hhb:(ks.map fun k=>(k,AI hs k))=J)
  {ι:Type} (I:ι→Prop) (xF:ι→AV) (s:ι→List (Ad×Blk)) (fr fl:List Ad) (M:(My fr fx&&HI hs&&Nb n l&&ks.all (BS os))=true) (t:∀i,(DJ os (s i)&&Lz fr (s i))=true) (H:∀i,Fs C (s i)) (hfl:Jc (AI hs) fl)
  (T:∀r:Ren,r.θ=C.θ→r.H0=C.H0→r.κ=C.κ→r.no=C.no→∀V,(∀p∈J,(V (r.κ p.1)).g=r.γ p.1+p.2.g∧(p.2.live=true→V (r.κ p.1)=AL r p.1 p.2))→(∀k:Ad,k.1≤C.l→¬r.no k→V k=r.H0 k)→
   ZcF P f (C.l+1) (Aq r xs) V (fun y W=>∃i,I i∧∃a:Ad→Nat,(∀k,k∉fr→a k=r.γ k)∧y=ren ⟨r.κ,a,r.θ,r.H0,r.no⟩ (xF i)∧W=Do ⟨r.κ,a,r.θ,r.H0,r.no⟩ (s i) V))
  (h:∀i,I i→LO P n C c (k+1) (Ab (GR l (xF i) (Ei fr ss)) (s i++Da ((s i).map (·.1)) fr fl hs)) Q):LO P n C c k (Ab ss hs) Q:=by
 subst hO
 subst hF
 simp only[Yc]at M
 obtain⟨⟨⟨k3,k4⟩,k5⟩,k6⟩:=M
 intro γ σ act w hg z hR
 have hr:=hC.ren γ
 have hs':∀j,σ.s j=ren (C.r γ) (AN ss j):=fun j=>(z.s j).1 Ba
 have A:∀y:Operand,ev σ.s y=ren (C.r γ) (ev (AN ss) y):=fun y=>Ko (c:=[]) z Ba (by cases y<;>rfl)
 unfold GJ at m
 split at m
 case h_2=>cases m
 rename_i o ho
 split at m
 case h_2=>cases m
 rename_i cl hgd hopc
 split at m
 case h_2=>cases m
 rename_i fo' hcal
 simp only[Yi,GD]at m
 obtain⟨hd,rfl,rfl⟩:=m
 rw[Ct]at ho
 have hlt:k<(Cu c).toList.length:=by
  grind
 have U:(Cu c).toList.drop k=o::(Cu c).toList.drop (k+1):=by
  rw[Jt hlt]
  grind
 rw[U]
 have L:∀q k:Ad,BS C.outs q=true→BS C.outs k=true→q≠k→(C.r γ).κ q≠(C.r γ).κ k:=fun q k Z h2 h3=>hr.ne (Gf Z) (Gf h2) h3
 have hA:=T (C.r γ) rfl rfl rfl rfl σ.H (fun p E=>by
  rw[←hhb]at E
  obtain⟨q,g,rfl⟩:=YI.1 E
  have hq':=Gf (Yq.1 k6 q g)
  refine⟨?_,fun hl=>z.h q hl⟩
  obtain⟨q1,q2⟩:=q
  simp only at hq'
  rcases hq' with rfl|⟨rfl,h2⟩
  ·have:=z.g q2
   rw[←hr.own]at this
   exact this
  ·exact z.go q2 h2) z.o
 have S:Aq (C.r γ) xs=Aq (C.r γ) first++cl.args.toList.map (ev σ.s)++Aq (C.r γ) u:=by
  rw[←hxs,GH,GH]
  congr 2
  rw[FA,Il]
  exact Y9 fun y _=>(A y).symm
 have hfe:ev σ.s fo'=.fn (.func f) (Aq (C.r γ) first) (Aq (C.r γ) u):=by rw[A,hf];simp[ren]
 have hrop:BI P C.l n o (fun σ'=>∃i,I i∧∃a:Ad→Nat,(∀q,q∉fr→a q=γ q)∧σ'=⟨ZXN l σ.s (ren (C.r a) (xF i)),Do (C.r a) (s i) σ.H⟩) σ:=by
  unfold BI
  rw[hopc]
  simp only[hcal,hfe]
  rw[S]at hA
  refine hA.mono fun y W ⟨i,hi,a,N,e2,e3⟩=>?_
  unfold NX CL
  rw[hd]
  cases l with
  |none=>exact⟨i,hi,a,N,by rw[e3];rfl⟩
  |some d=>exact⟨Yh k5,i,hi,a,N,by rw[e2,e3];rfl⟩
 refine fB (by simp[Region.wanted,hgd]) (Mg hrop) hR fun σ' Y w' hK O=>?_
 obtain⟨i,hi,a,N,rfl⟩:=hK
 have h:=h i hi
 have H:=H i
 have t:=t i
 generalize s i=Ax at h H t O
 generalize xF i=x at h O
 simp only[Yc]at t
 obtain⟨k1,k2⟩:=t
 have hsub:∀q,q∈fr→∃b,(q,b)∈Ax:=fun q g=>by
  obtain⟨p,E,hk⟩:=YQ.1 (Yq.1 k2 q g)
  rw[Cz.1 hk];exact⟨p.2,E⟩
 let τ2:St:=Ab (GR l x (Ei fr ss)) (Ax++Da (Ax.map (·.1)) fr fl hs)
 have D:∀q,AI (Ax++Da (Ax.map (·.1)) fr fl hs) q=if q∈Ax.map (·.1)then AI Ax q else AI (Da (Ax.map (·.1)) fr fl hs) q:=fun q=>ZKm _ _ _
 have hin:∀q,q∈Ax.map (·.1)→∃b,(q,b)∈Ax:=fun q g=>by obtain⟨p,E,rfl⟩:=YI.1 g;exact⟨p.2,E⟩
 have F:∀q b,(q,b)∈Ax→Do (C.r a) Ax σ.H ((C.r a).κ q)=AL (C.r a) q b∧AI Ax q=b∧BS C.outs q=true∧b.live=true:=Zpj (r:=C.r a) L Ax σ.H k1
 have B:∀q,q∉Ax.map (·.1)→BS C.outs q=true→Do (C.r a) Ax σ.H ((C.r a).κ q)=σ.H ((C.r a).κ q)∧a q=γ q:=fun q g v=>by
  refine⟨TB _ _ _ fun p E=>L _ _ (F p.1 p.2 E).2.2.1 v fun e=>g (YI.2 ⟨p,E,e⟩),N q fun hf=>?_⟩
  grind
 have K:∀q,BS C.outs q=true→(σ.H (C.κ q)).g=γ q→(Do (C.r a) Ax σ.H (C.κ q)).g=a q+(AI (Ax++Da (Ax.map (·.1)) fr fl hs) q).g:=fun q v hq0=>by
  rw[D]
  split
  ·rename_i hm
   obtain⟨b,J⟩:=hin q hm
   obtain⟨a1,X,_⟩:=F q b J
   rw[show C.κ q=(C.r a).κ q from rfl,a1,X]
   rfl
  ·rename_i hm
   obtain⟨a1,X⟩:=B q hm v
   rw[show C.κ q=(C.r a).κ q from rfl,a1,X]
   have:(AI (Da (Ax.map (·.1)) fr fl hs) q).g=0:=by
    rcases(OJ (fr:=fr) (fl:=fl) hs (Ax.map (·.1)) q).2 hm with⟨e,_⟩|e
    ·rw[e];exact T8 k4 q
    ·rw[e];rfl
   rw[this]
   exact hq0
 have hG2:RG (C.r a) C.l C.outs [] τ2 ⟨fun j=>ren (C.r a) (τ2.s j),Do (C.r a) Ax σ.H⟩:=by
  refine⟨fun j=>⟨fun _=>rfl,fun hn=>absurd Ba hn⟩,fun q g=>?_,fun d=>?_,fun i hi=>?_,fun q g=>?_,fun q g hn=>?_⟩
  ·show Do (C.r a) Ax σ.H ((C.r a).κ q)=AL (C.r a) q (AI (Ax++Da (Ax.map (·.1)) fr fl hs) q)
   replace g:(AI (Ax++Da (Ax.map (·.1)) fr fl hs) q).live=true:=g
   rw[D]at g⊢
   split at g
   ·grind
   ·rename_i hm
    rw[Yj hm]
    rcases(OJ (fr:=fr) (fl:=fl) hs (Ax.map (·.1)) q).2 hm with⟨e,e'⟩|e
    ·rw[e]at g⊢
     have v:=z.k q g
     have t:BS C.outs q=true:=by
      obtain⟨q1,q2⟩:=q
      simp only at v
      simp only[BS,YF,Yc]
      rcases v with rfl|⟨rfl,h2⟩
      ·exact .inl rfl
      ·exact .inr ⟨rfl,oW h2⟩
     obtain⟨a1,X⟩:=B q hm t
     rw[a1]
     have J:=z.h q g
     have G:Aq (C.r a) (AI hs q).cells=Aq (C.r γ) (AI hs q).cells:=by
      rcases e' with e'|e'
      ·rw[Hy (lH hfl q e'),Hy (lH hfl q e')]
      ·exact Mc (r:=C.r γ) N _ e'
     show σ.H ((C.r γ).κ q)=_
     rw[J]
     simp only[AL]
     rw[G,show(C.r a).γ q=a q from rfl,X]
     rfl
    ·rw[e]at g;cases g
  ·have:=K (1,d) rfl (by
    have:=z.g d
    rw[show((Ab ss hs).H (1,d)).g=0 from T8 k4 _]at this
    rw[hC.own];exact this)
   rw[hC.own]at this
   exact this
  ·exact K (0,i) (by simp only[BS,YF,Yc];exact .inr ⟨rfl,oW hi⟩) (by
    have:=z.go i hi
    rw[show((Ab ss hs).H (0,i)).g=0 from T8 k4 _]at this
    exact this)
  ·replace g:(AI (Ax++Da (Ax.map (·.1)) fr fl hs) q).live=true:=g
   rw[D]at g
   split at g
   ·rename_i hm
    obtain⟨b,J⟩:=hin q hm
    exact Gf (F q b J).2.2.1
   ·rename_i hm
    rcases(OJ (fr:=fr) (fl:=fl) hs (Ax.map (·.1)) q).2 hm with⟨e,e'⟩|e
    ·rw[e]at g;exact z.k q g
    ·rw[e]at g;cases g
  ·show Do (C.r a) Ax σ.H q=C.H0 q
   rw[TB _ _ _ fun p E e=>?_]
   ·exact z.o q g hn
   ·by_cases Z:p.1.1=1
    ·obtain⟨⟨p1,p2⟩,p3⟩:=p
     simp only at Z
     subst Z
     rw[show(C.r a).κ (1,p2)=(C.l+1,p2)from hC.own p2]at e
     grind
    ·exact hn (by rw[←e];exact lu H p E Z)
 refine h a _ Y w' (hC.G γ a (fun i hi=>N _ fun hm=>?_) hg) hG2 (R.weaken O fun j=>?_)
 ·have:=Yq.1 k3 _ hm
  simp only[YN,Lh]at this
  rcases this with h|h
  ·cases h
  ·have:(C.fx.any (Nat.beq i))=true:=YQ.2 ⟨i,hi,by simp⟩
   grind
 ·have old:ren (C.r a) (AN (Ei fr ss) j)=σ.s j∨ren (C.r a) (AN (Ei fr ss) j)=.top:=by
   rcases ZnR (fr:=fr) ss j with e|⟨e,e'⟩
   ·right;rw[e];simp[ren]
   ·left
    rw[e,hs' j]
    exact Zi6 (r:=C.r γ) N _ e'
  show ren (C.r a) (AN (GR l x (Ei fr ss)) j)=_∨ren (C.r a) (AN (GR l x (Ei fr ss)) j)=.top
  cases l with
  |none=>exact old
  |some d=>
   simp only[GR,AN,ZXN,upd]
   cases hj:Nat.beq d j with
   |true=>
    have:=Yb hj
    grind
   |false=>
    have:j≠d:=fun e=>by rw[e]at hj;simp at hj
    grind
theorem ZHW(D:CxOk C){os:Nat}{fx:List Nat}(F:C.outs=os)(E:C.fx=fx){c:Code}{k:Nat}{ss:List (Nat×AV)}{hs:List (Ad×Blk)}(e:Option Nat)(l:Operand)(j:List Operand)(q:GJ c k=some (e,l,j))
  (f:FuncId) (first d xs:List AV) (G:ev (AN ss) l=.fn (.func f) first d) (t:first++j.map (ev (AN ss))++d=xs) (ks:List Ad) (m:List (Ad×Blk)) (p:(ks.map fun k=>(k,AI hs k))=m)
  (x:AV) (Ax:List (Ad×Blk)) (fr fl:List Ad) (i:(DJ os Ax&&Lz fr Ax&&My fr fx&&HI hs&&Nb n e&&ks.all (BS os))=true) (s:Fs C Ax) (o:Jc (AI hs) fl)
  (g:∀r:Ren,r.θ=C.θ→r.H0=C.H0→r.κ=C.κ→r.no=C.no→HO P C.l r f xs m x Ax fr)
  (h:LO P n C c (k+1) (Ab (GR e x (Ei fr ss)) (Ax++Da (Ax.map (·.1)) fr fl hs)) Q):LO P n C c k (Ab ss hs) Q:=by
 simp only[Yc]at i
 obtain⟨⟨⟨⟨⟨I,J⟩,K⟩,L⟩,M⟩,N⟩:=i
 exact Zz3 D F E e l j q f first d xs G t ks m p (ι:=Unit) (fun _=>True) (fun _=>x) (fun _=>Ax) fr fl (by simp only[Yc];exact⟨⟨⟨K,L⟩,M⟩,N⟩) (fun _=>by simp only[Yc];exact⟨I,J⟩) (fun _=>s) o
  (fun r w z A B u a b=>(g r w z A B u a b).mono fun y v H=>⟨(),trivial,H⟩) fun _ _=>h
end
def Ed(l:Nat)(ks:List Ad):Ad→Ad
 |(0,i)=>match Bw ks i with|some k=>k|none=>(0,0)
 |(_+1,d)=>(l+1,d)
def G5(a:List Nat):Ad→Nat
 |(0,i)=>match Bw a i with|some g=>g|none=>0
 |(_+1,_)=>0
def Ck(l:Nat)(ks:List Ad)(a:List Nat)(θ:Nat→AV)(H:Hp):Ren:=⟨Ed l ks,G5 a,θ,H,fun k=>k∈ks⟩
def Ij(l:Nat)(ks:List Ad)(a:List Nat)(r:Ren):Prop:=r.κ=Ed l ks∧∀i,i<ks.length→r.γ (0,i)=G5 a (0,i)
def CY(r:Ren):Nat→List Blk→List Blk
 |_,[]=>[]
 |i,b::a=>AL r (0,i) b::CY r (i+1) a
def DO(H:Hp):List Ad→List Blk→Hp
 |k::ks,b::a=>DO (updH H k b) ks a
 |_,_=>H
theorem Mf{r:Ren}{k:Ad}{g:Nat}{e:TypeId}{sz:Nat}{cs:List AV}(h:Gh cs):AL r k ⟨g,true,e,sz,cs⟩=⟨r.γ k+g,true,e,sz,cs⟩:=by
 simp only[AL,Hy h]
theorem fZ:∀(ks:List Ad) (a:List Blk) (H:Hp) (q:Ad),q∉ks→DO H ks a q=H q
 |[],a,H,q,h=>by cases a<;>rfl
 |k::ks,[],H,q,h=>rfl
 |k::ks,b::a,H,q,h=>by
  simp only[DO]
  rw[fZ ks a _ q (fun hm=>h (Ys _ hm)),AJ _ _ (fun e=>h (by rw[e];exact YB ..))]
theorem ZtT:∀(ks:List Ad) (a:List Blk) (H:Hp),ks.Nodup→∀(j:Nat) (k:Ad) (b:Blk),ks[j]?=some k→a[j]?=some b→DO H ks a k=b
 |[],a,H,_,j,k,b,h,_=>by simp at h
 |q::ks,[],H,_,_,_,_,_,h=>by simp at h
 |q::ks,c::a,H,e,j,k,b,d,hb=>by
  simp only[DO]
  rw[Xs]at e
  cases j with
  |zero=>
   simp only[Y7,Yi]at d hb
   subst d;subst hb
   rw[fZ ks a _ _ e.1,AO]
  |succ j=>
   simp only[Ju]at d hb
   exact ZtT ks a _ e.2 j k b d hb
theorem Zpw{r:Ren}:∀(a:List Blk) (i j:Nat),(CY r i a)[j]?=(a[j]?).map (AL r (0,i+j))
 |[],i,j=>by simp[CY]
 |b::a,i,0=>by simp[CY]
 |b::a,i,j+1=>by
  simp only[CY,Ju,Zpw a (i+1) j,show i+1+j=i+(j+1)from by omega]
theorem Zh2{P:Program}{T:Nat→Option TI}{n:Nat}{f:FuncId}{fn:Func}(I:List ResultVar)(c:Code){l:Nat}{xs:List AV}{H:Hp}{g:AV→Hp→Prop}(ks:List Ad)(t:List Nat)(fx:List Nat)(θ:Nat→AV)(ys:List AV)(hs:List (Ad×Blk))(LPost:AV→List Blk→Prop)
  (U:P.funcs[f]?=some fn) (hb:fn.body=some c) (s:(fn.name== "runtime.NumGoroutine")=false) (Y:fn.ntmps=n) (Z:fn.results.toList=I) (hx:xs.length≤n) (R:Bg P T)
  (A:∀k∈ks,k.1≤l) (u:ks.Nodup) (V:∀d,AI hs (1,d)=Fi) (E:∀k,(AI hs k).live=true→k.1=0∧k.2<ks.length)
  (Q:∀i k,ks[i]?=some k→(H k).g=G5 t (0,i)+(AI hs (0,i)).g∧((AI hs (0,i)).live=true→H k=AL (Ck l ks t θ H) (0,i) (AI hs (0,i))))
  (G:Aq (Ck l ks t θ H) ys=xs)
  (h:∀C,CxOk C→C.outs=ks.length→C.fx=fx→C.l=l→C.H0=H→C.θ=θ→C.κ=Ed l ks→C.no=(fun k=>k∈ks)→LW P n C c (Ab (D8 0 ys) hs) (FQ T I ks.length LPost))
  (v:∀y b,LPost y b→b.length=ks.length∧(∀x∈b,x.live=true)∧∀r:Ren,r.κ=Ed l ks→r.θ=θ→r.H0=H→r.no=(fun k=>k∈ks)→(∀i∈fx,r.γ (0,i)=G5 t (0,i))→g (ren r y) (DO H ks (CY r 0 b))):ZcF P f l xs H g:=by
 let C:Base→Cx:=fun B=>⟨l,B,Ed l ks,θ,H,ks.length,fun k=>k∈ks,fx,fun γ=>∀i∈fx,γ (0,i)=G5 t (0,i)⟩
 have a:∀i,i<ks.length→ks[i]?=some (Ed l ks (0,i)):=fun i hi=>by
  show _=some (match Bw ks i with|some k=>k|none=>(0,0))
  rw[Ct,Ya hi]
 have D:∀(i:Nat) (k:Ad),ks[i]?=some k→i<ks.length:=fun i k hi=>by
  grind
 have J:∀B,CxOk (C B):=fun B=>by
  refine⟨fun _=>rfl,fun i hi=>A _ (Yk (a i hi)),fun i j hi X e=>?_,fun k w=>?_,fun γ γ' he hg i hi=>by rw[he i hi];exact hg i hi⟩
  ·have m:=a i hi
   have o:=a j X
   rw[show Ed l ks (0,i)=Ed l ks (0,j)from e]at m
   have O:ks[i]?=ks[j]?:=m.trans o.symm
   exact(List.getElem?_inj hi u).1 O
  ·obtain⟨i,hi⟩:=YD.1 (show k∈ks from w)
   grind
 refine Zpx I C (γ:=G5 t) (LPost:=LPost) (ys:=ys) (hs:=hs) U hb s Y Z hx R J (fun B=>⟨rfl,rfl,rfl,fun i _=>rfl⟩) (fun B=>G) (fun _=>rfl) V (fun B k w=>?_) (fun B i hi=>?_) (fun B γ y b M hg hy K _=>?_) (fun B=>h _ (J B) rfl rfl rfl rfl rfl rfl rfl)
 ·obtain⟨m,o⟩:=E k w
  obtain⟨k1,L⟩:=k
  simp only at m o
  subst m
  exact⟨rfl,o,(Q L _ (a L o)).2 w⟩
 ·grind
 ·obtain⟨S,z,v⟩:=v y b hy
  have v:=v ((C B).r γ) rfl rfl rfl rfl fun i hi=>hg i hi
  have N:M=DO H ks (CY ((C B).r γ) 0 b):=by
   funext q
   by_cases F:q∈ks
   ·obtain⟨i,hi⟩:=YD.1 F
    have W:=D i q hi
    have p:b[i]?=some b[i]:=Ya (by omega)
    have m:=K.live i _ p (z _ (Yk p))
    have o:Ed l ks (0,i)=q:=by
     grind
    rw[show(C B).κ (0,i)=q from o]at m
    rw[m,ZtT ks _ H u i q (AL ((C B).r γ) (0,i) b[i]) hi]
    rw[Zpw,p,YJ]
    rfl
   ·rw[fZ ks _ H q F]
    exact K.o q F
  rw[N];exact v
theorem Zmn{P:Program}{T:Nat→Option TI}{n:Nat}{f:FuncId}{fn:Func}(w:List ResultVar)(c:Code){l:Nat}{xs:List AV}{H:Hp}{a:AV→Hp→Prop}(ks:List Ad)(e:List Nat)(fx:List Nat)(θ:Nat→AV)(ys:List AV)(hs:List (Ad×Blk))(LPost:AV→List Blk→Prop)
  (F:P.funcs[f]?=some fn) (hb:fn.body=some c) (g:(fn.name== "runtime.NumGoroutine")=false) (I:fn.ntmps=n) (J:fn.results.toList=w) (K:xs.length≤n) (D:Bg P T)
  (q:∀k∈ks,k.1≤l) (t:ks.Nodup) (p:∀i,i<ks.length→i∈fx) (G:∀d,AI hs (1,d)=Fi) (s:∀k,(AI hs k).live=true→k.1=0∧k.2<ks.length)
  (B:∀i k,ks[i]?=some k→(H k).g=G5 e (0,i)+(AI hs (0,i)).g∧((AI hs (0,i)).live=true→H k=AL (Ck l ks e θ H) (0,i) (AI hs (0,i))))
  (v:Aq (Ck l ks e θ H) ys=xs)
  (h:∀C,CxOk C→C.outs=ks.length→C.fx=fx→C.l=l→C.H0=H→C.θ=θ→C.κ=Ed l ks→C.no=(fun k=>k∈ks)→LW P n C c (Ab (D8 0 ys) hs) (FQ T w ks.length LPost))
  (u:∀y b,LPost y b→b.length=ks.length∧(∀x∈b,x.live=true)∧∃Y' bs',(∀r,Ij l ks e r→ren r y=Y')∧(∀r,Ij l ks e r→CY r 0 b=bs')∧a Y' (DO H ks bs')):ZcF P f l xs H a:=by
 refine Zh2 w c ks e fx θ ys hs LPost F hb g I J K D q t G s B v h fun y b hy=>?_
 obtain⟨m,o,Y',bs',E,hB,u⟩:=u y b hy
 refine⟨m,o,fun r z _ _ _ A=>?_⟩
 have j:Ij l ks e r:=⟨z,fun i hi=>A i (p i hi)⟩
 rw[E _ j,hB _ j];exact u
theorem Zqr{P:Program}{T:Nat→Option TI}{n:Nat}{f:FuncId}{fn:Func}(v:List ResultVar)(c:Code){l:Nat}{xs:List AV}{H:Hp}{a:AV→Hp→Prop}(ks:List Ad)(g:List Nat)(fx:List Nat)(θ:Nat→AV)(ys:List AV)(hs:List (Ad×Blk))(Y:AV)(j:List Blk){Y':AV}{bs':List Blk}
  (D:P.funcs[f]?=some fn) (hb:fn.body=some c) (e:(fn.name== "runtime.NumGoroutine")=false) (F:fn.ntmps=n) (I:fn.results.toList=v) (J:xs.length≤n) (A:Bg P T)
  (q:∀k∈ks,k.1≤l) (t:ks.Nodup) (p:∀i,i<ks.length→i∈fx) (E:∀d,AI hs (1,d)=Fi) (s:∀k,(AI hs k).live=true→k.1=0∧k.2<ks.length)
  (z:∀i k,ks[i]?=some k→(H k).g=G5 g (0,i)+(AI hs (0,i)).g∧((AI hs (0,i)).live=true→H k=AL (Ck l ks g θ H) (0,i) (AI hs (0,i))))
  (u:Aq (Ck l ks g θ H) ys=xs) (m:j.length=ks.length) (o:∀b∈j,b.live=true) (B:∀r,Ij l ks g r→ren r Y=Y') (hB:∀r,Ij l ks g r→CY r 0 j=bs')
  (h:∀C,CxOk C→C.outs=ks.length→C.fx=fx→C.l=l→C.H0=H→C.θ=θ→C.κ=Ed l ks→C.no=(fun k=>k∈ks)→LW P n C c (Ab (D8 0 ys) hs) (FQ T v ks.length (fun y b=>y=Y∧b=j)))
  (G:a Y' (DO H ks bs')):ZcF P f l xs H a:=by
 exact Zmn v c ks g fx θ ys hs (fun y b=>y=Y∧b=j) D hb e F I J A q t p E s z u h fun y b ⟨w,x⟩=>by subst w;subst x;exact⟨m,o,Y',bs',B,hB,G⟩
section
variable {P:Program} {l:Nat} {r:Ren} {f:FuncId} {xs xs':List AV} {hb Ax:List (Ad×Blk)} {x x':AV}
theorem Zzf(e:Aq r xs=xs')(g:ren r x=x')(h:∀a,(∀p∈hb,(a (r.κ p.1)).g=r.γ p.1+p.2.g∧(p.2.live=true→a (r.κ p.1)=AL r p.1 p.2))→(∀k:Ad,k.1≤l→¬r.no k→a k=r.H0 k)→ZcF P f (l+1) xs' a (fun y b=>y=x'∧b=Do r Ax a)):
  HO P l r f xs hb x Ax []:=fun a hb i=>by
 rw[e]
 exact(h a hb i).mono fun y b ⟨c,d⟩=>⟨r.γ,fun _ _=>rfl,by rw[c,←g],d⟩
end
theorem Zow{α:Type}{e:α→List D}{r:Ren}{k:Ad}(xs:List α):FO r k (Af e xs):=by
 unfold FO
 rw[Hy (A2 e xs)]
 refine Yq.2 fun x a=>?_
 obtain⟨d,_,rfl⟩:=YI.1 a
 rfl
theorem Ztg{r:Ren}{k:Ad}{vs:List AV}(h:(Aq r vs).all (AV.low (r.κ k).1)=true):FO r k vs:=h
theorem oY{r:Ren}{k:Ad}(ds:List D):FO r k (ds.map .d):=by
 unfold FO
 rw[HF]
 refine Yq.2 fun x a=>?_
 obtain⟨d,_,rfl⟩:=YI.1 a
 rfl
theorem ZiT{α:Type}(e:α→List D)(xs:List α):Ge (Af e xs):=fun x a=>by
 obtain⟨d,_,rfl⟩:=YI.1 a;rfl
theorem Zyq{α:Type}{e:α→List D}{xs:List α}{off cn sz:Nat}{z:List AV}(hl:∀x,(e x).length=sz)(h:off+cn≤xs.length):
  cI (Af e xs) off cn sz z ((Af e xs).take (off*sz)++(List.replicate cn z).flatten++(Af e xs).drop ((off+cn)*sz)):=by
 refine⟨?_,rfl⟩
 rw[Fb hl]
 exact YY _ h
theorem ZyN{α:Type}{e:α→List D}{xs:List α}{off sz:Nat}{A B:List AV}(hl:∀x,(e x).length=sz)(h:off≤xs.length):∃m,((Af e xs).take (off*sz)++A++B).take m=Af e (xs.take off):=by
 refine⟨off*sz,?_⟩
 have a:((Af e xs).take (off*sz)).length=off*sz:=by
  rw[Yy,Fb hl]
  exact Le (YY _ h)
 rw[Fu,List.take_append_of_le_length (by omega),Jv (by omega),TE hl]
def Iu(n:Nat):List (Ad×Blk)→Bool
 |[]=>true
 |(k,_)::r=>Nat.beq k.1 0&&Nat.ble (k.2+1) n&&Iu n r
theorem is{n:Nat}:∀{hs:List (Ad×Blk)},Iu n hs=true→∀k,(AI hs k).live=true→k.1=0∧k.2<n
 |[],_,k,h=>by simp[AI,Fi]at h
 |(q,b)::r,hi,k,h=>by
  simp only[Iu,Yc]at hi
  simp only[AI]at h
  split at h
  ·rename_i a
   have a:=Cz.1 a
   subst a
   exact⟨Yb hi.1.1,Yh hi.1.2⟩
  ·exact is hi.2 k h
theorem gy{n:Nat}:∀{hs:List (Ad×Blk)},Iu n hs=true→∀d,AI hs (1,d)=Fi
 |[],_,d=>rfl
 |(q,b)::r,hi,d=>by
  simp only[Iu,Yc]at hi
  simp only[AI]
  split
  ·rename_i a
   have a:=Cz.1 a
   subst a
   have:=Yb hi.1.1
   grind
  ·exact gy hi.2 d
def Jl(H:Hp)(r:Ren)(hs:List (Ad×Blk)):Nat→List Ad→Prop
 |_,[]=>True
 |i,k::ks=>((H k).g=r.γ (0,i)+(AI hs (0,i)).g∧((AI hs (0,i)).live=true→H k=AL r (0,i) (AI hs (0,i))))∧Jl H r hs (i+1) ks
theorem lR{H:Hp}{r:Ren}{hs:List (Ad×Blk)}:∀{ks:List Ad} {i:Nat},Jl H r hs i ks→∀j k,ks[j]?=some k→(H k).g=r.γ (0,i+j)+(AI hs (0,i+j)).g∧((AI hs (0,i+j)).live=true→H k=AL r (0,i+j) (AI hs (0,i+j)))
 |[],i,_,j,k,h=>by simp at h
 |q::ks,i,h,0,k,a=>by
  simp only[Y7,Yi]at a
  subst a
  exact h.1
 |q::ks,i,h,j+1,k,a=>by
  have:=lR h.2 j k (by simpa using a)
  grind
def IS(l:Nat):List Ad→Prop
 |[]=>True
 |k::ks=>k.1≤l∧IS l ks
theorem Ub{l:Nat}:∀{ks:List Ad},IS l ks→∀k∈ks,k.1≤l
 |q::ks,h,k,a=>by
  rcases YG.1 a with rfl|a
  ·exact h.1
  ·exact Ub h.2 k a
def Iz:Nat→List Nat
 |0=>[]
 |n+1=>Iz n++[n]
theorem T2:∀{n i:Nat},i<n→i∈Iz n
 |n+1,i,h=>by
  simp only[Iz,Hf,Hj]
  rcases YH i n with a|a
  ·exact .inl (T2 a)
  grind
theorem Znl{P:Program}{T:Nat→Option TI}{n:Nat}{f:FuncId}{fn:Func}(u:List ResultVar)(c:Code){l:Nat}{xs:List AV}{H:Hp}{a:AV→Hp→Prop}(ks:List Ad)(g:List Nat)(os:Nat)(θ:Nat→AV)(ys:List AV)(hs:List (Ad×Blk))(Y:AV)(e:List Blk){Y':AV}{bs':List Blk}
  (z:P.funcs[f]?=some fn) (hb:fn.body=some c) (d:(fn.name== "runtime.NumGoroutine")=false) (B:fn.ntmps=n) (E:fn.results.toList=u) (F:xs.length≤n) (w:Bg P T) (s:ks.length=os)
  (p:IS l ks) (q:ks.Nodup) (j:Iu os hs=true) (v:Jl H (Ck l ks g θ H) hs 0 ks) (t:Aq (Ck l ks g θ H) ys=xs) (m:e.length=os) (o:∀b∈e,b.live=true) (x:∀r,Ij l ks g r→ren r Y=Y') (hB:∀r,Ij l ks g r→CY r 0 e=bs')
  (h:∀C,CxOk C→C.outs=os→C.fx=Iz os→C.l=l→C.H0=H→C.θ=θ→C.κ=Ed l ks→C.no=(fun k=>k∈ks)→LW P n C c (Ab (D8 0 ys) hs) (FQ T u os (fun y b=>y=Y∧b=e)))
  (D:a Y' (DO H ks bs')):ZcF P f l xs H a:=by
 subst s
 exact Zqr u c ks g (Iz ks.length) θ ys hs Y e z hb d B E F w (Ub p) q (fun i hi=>T2 hi) (gy j) (is j) (fun i k A=>by have:=lR v i k A;rw[YJ]at this;exact this) t m o x hB h D
theorem ZqB{α:Type}{e e':α→List D}{xs:List α}{j sz:Nat}{x:α}(b:xs[j]?=some x)(hl:∀x,(e x).length=sz)(he:∀x,e x=e' x):Gc (Af e xs) (j*sz) ((e' x).map .d):=by
 have a:j<xs.length:=by
  grind
 have:=Zh0 (z:=x) a hl he
 grind
theorem ZHN{P:Program}{l o:Nat}{no b:Ad→Prop}{H j:Hp}{c:AV}{m:List AV}{y:AV}(h:CS P l no H c m y)(hl:l≤o)(i:∀q:Ad,q.1≤l→¬no q→¬b q)(r:∀q:Ad,q.1≤l→¬no q→j q=H q):CS P o b j c m y:=by
 obtain⟨f,first,a,e,h⟩:=h
 exact⟨f,first,a,e,fun l' p g s=>h l' p (DI hl g) fun k d n=>by rw[s k (DI d hl) (i k d n),r k d n]⟩
def ZQL:Code→Operand
 |.cond o _ _=>o
 |_=>.tmp 0
def FK(c:Code)(k:Nat):Option Nat:=match GJ c k with|some (d,_,_)=>d|none=>none
def callF(c:Code)(k:Nat):Operand:=match GJ c k with|some (_,f,_)=>f|none=>.tmp 0
def GM(c:Code)(k:Nat):List Operand:=match GJ c k with|some (_,_,xs)=>xs|none=>[]
theorem Zn2{P:Program}{n:Nat}{C:Cx}{Q:Exit→St→Prop}(m:CxOk C){os:Nat}{fx:List Nat}(p:C.outs=os)(o:C.fx=fx){c:Code}{k:Nat}{ss:List (Nat×AV)}{hs:List (Ad×Blk)}
  (f:FuncId) (first a xs:List AV) (i:GJ c k=some (FK c k,callF c k,GM c k)) (q:ev (AN ss) (callF c k)=.fn (.func f) first a) (l:first++(GM c k).map (ev (AN ss))++a=xs) (ks:List Ad) (hb:List (Ad×Blk)) (e:(ks.map fun k=>(k,AI hs k))=hb)
  (x:AV) (Ax:List (Ad×Blk)) (fr fl:List Ad) (g:(DJ os Ax&&Lz fr Ax&&My fr fx&&HI hs&&Nb n (FK c k)&&ks.all (BS os))=true) (j:Fs C Ax) (d:Jc (AI hs) fl)
  (b:∀r:Ren,r.θ=C.θ→r.H0=C.H0→r.κ=C.κ→r.no=C.no→HO P C.l r f xs hb x Ax fr)
  (h:LO P n C c (k+1) (Ab (GR (FK c k) x (Ei fr ss)) (Ax++Da (Ax.map (·.1)) fr fl hs)) Q):LO P n C c k (Ab ss hs) Q:=
 ZHW m p o _ _ _ i f first a xs q l ks hb e x Ax fr fl g j d b h
end Go.Eng
namespace Go.Eng
open Go
set_option linter.all false
end Go.Eng
namespace Go.Eng
set_option linter.all false
open Go Go.RowKit Go.Shelf
theorem Zug{α:Type}{e:α→List D}{xs:List α}{l h:Nat}(q:EV l h xs.length):EV l h (xs.map e).length:=by rw[YC];exact q
theorem ZIu{α:Type}{e:α→List D}{xs:List α}{sz:Nat}(he:∀x,(e x).length=sz):∀d,d∈xs.map e→d.length=sz:=fun d h=>by
 grind
theorem Zuw{α:Type}{e:α→List D}{xs:List α}{sz l h:Nat}(he:∀x,(e x).length=sz):Nw (xs.map e) sz l h (((xs.drop l).take (h-l)).map e):=
 ⟨ZIu he,by rw[←List.map_drop,←List.map_take]⟩
theorem ZwU{i:Int}{len sz:Nat}(a:0≤i)(h:i<len):LC i len 0 sz (i.toNat*sz):=⟨a,h,by simp⟩
end Go.Eng
namespace Go.Eng
set_option linter.all false
theorem TX{α:Type}{l:List α}{p:α→Bool}:((match l.findIdx? p with|some k=>(k:Int)|none=>-1)≥0)↔l.any p=true:=by
 rw[YQ]
 cases h:l.findIdx? p with
 |none=>
  rw[XJ]at h
  constructor
  ·intro e;exact absurd e (by decide)
  ·rintro⟨x,d,a⟩;rw[h x d]at a;cases a
 |some k=>
  obtain⟨b,c,_⟩:=NG.1 h
  exact⟨fun _=>⟨l[k],Io b,c⟩,fun _=>Int.natCast_nonneg k⟩
theorem ZBB{α:Type}{e e':α→List D}{xs:List α}{j sz:Nat}{y:α}(a:j<xs.length)(hl:∀x,(e x).length=sz)(he:∀x,e x=e' x):K9 (Af e xs) (j*sz) ((e' y).map .d) (Af e (xs.set j y)):=by
 rw[←he];exact ZHj a hl
theorem Zl3{α:Type}{sz:Nat}{e e':α→List D}{y:α}(C:List AV)(hl:∀x,(e x).length=sz)(he:∀x,e x=e' x):Em sz C (.d (.list [e' y])) 1 (Af e [y]):=by
 rw[ZCd,he];exact ZA2 C (by rw[←he];exact hl y)
theorem ZJc{α:Type}{e:α→List D}{z:α}{c:List AV}(a:(e z).map .d=c)(m:Nat):(List.replicate m c).flatten=Af e (List.replicate m z):=by
 subst a
 induction m with
 |zero=>rfl
 |succ m b=>rw[Xx,Jr,b,Xx,Kf]
end Go.Eng
namespace Go.Eng
set_option linter.all false
open Go Go.RowKit
section
variable {P:Program} {T:Nat→Option TI} {n:Nat} {C:Cx} {τ:St} {Q:Exit→St→Prop}
theorem ZIv(f:CxOk C){os:Nat}{fx:List Nat}(k:C.outs=os)(i:C.fx=fx){c:Code}(a:AT)(lf:Lf)(q:Ren→(St→Prop)→Prop)
  (l:∀r Φ,Bu r os a τ (fun τ _=>FL fx lf τ Φ)=q r Φ) (h:∀r,r.θ=C.θ→r.H0=C.H0→r.κ=C.κ→r.no=C.no→q r (fun τ'=>LW P n C c τ' Q)):LW P n C c τ Q:=by
 subst k
 subst i
 intro γ σ hg j
 have e:=h (C.r γ) rfl rfl rfl rfl
 rw[←l]at e
 obtain⟨x,v,w,g,b,d⟩:=Cn (n:=n) f a e j
 obtain⟨t,y,u,m,o,p,s⟩:=Hx (n:=n) f g hg b
 exact BT.weak (o t u m p) (d.trans s)
end
theorem Zn4{s:ByteArray}{i:Int}(a:0≤i)(h:i<s.size):II s i ((s.data.toList.getD i.toNat 0).toNat:Int):=by
 have:=ZxU (s:=s) (i:=i.toNat) (by omega)
 rwa [Int.toNat_of_nonneg a]at this
end Go.Eng
