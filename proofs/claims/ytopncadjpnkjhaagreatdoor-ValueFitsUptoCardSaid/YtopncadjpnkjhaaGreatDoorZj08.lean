import Derived.Test.YtopncadjpnkjhaaGreatDoorZj07
import Derived.Shelf.Spec.SlicesGrow
import Derived.Test.YtopncadjpnkjhaaGreatDoorZj00
namespace Go.Eng
structure Raw where
 num:Int
 wire:Int
 bits:Int
 data:ByteArray
deriving Inhabited,DecidableEq
mutual
inductive Val where
 |mk (kind bits:Int) (text:ByteArray) (list:List Val) (pairs:List Pr) (slots:List Slt) (raws:List Raw)
inductive Pr where
 |mk (key val:Val)
inductive Slt where
 |mk (num:Int) (val:Val)
end
inductive Msk where
 |mk (num:Int) (subs:List Msk)
instance:Inhabited Val:=⟨.mk 0 0 .empty [] [] [] []⟩
instance:Inhabited Pr:=⟨.mk default default⟩
instance:Inhabited Slt:=⟨.mk 0 default⟩
instance:Inhabited Msk:=⟨.mk 0 []⟩
def Val.kind:Val→Int|.mk k _ _ _ _ _ _=>k
def Val.bits:Val→Int|.mk _ b _ _ _ _ _=>b
def Val.text:Val→ByteArray|.mk _ _ t _ _ _ _=>t
def Val.list:Val→List Val|.mk _ _ _ l _ _ _=>l
def Val.pairs:Val→List Pr|.mk _ _ _ _ p _ _=>p
def Val.slots:Val→List Slt|.mk _ _ _ _ _ s _=>s
def Val.raws:Val→List Raw|.mk _ _ _ _ _ _ r=>r
def Pr.key:Pr→Val|.mk k _=>k
def Pr.val:Pr→Val|.mk _ v=>v
def Slt.num:Slt→Int|.mk n _=>n
def Slt.val:Slt→Val|.mk _ v=>v
def Msk.num:Msk→Int|.mk n _=>n
def Msk.subs:Msk→List Msk|.mk _ s=>s
def AQ(s:ByteArray):List D:=[.str s]
def pu(s:Int):List D:=[.int .i64 s]
def AE(s:Bool):List D:=[.bool s]
def A5(x:Raw):List D:=[.int .i64 x.num,.int .i64 x.wire,.int .u64 x.bits,.str x.data]
mutual
def AF:Val→List D
 |.mk k b t l p s r=>[.int .i64 k,.int .u64 b,.str t,.list (J9 l),.list (Kz p),.list (Kc s),.list (r.map A5)]
def J9:List Val→List (List D)
 |[]=>[]
 |v::vs=>AF v::J9 vs
def Ay:Pr→List D
 |.mk k v=>AF k++AF v
def Kz:List Pr→List (List D)
 |[]=>[]
 |v::vs=>Ay v::Kz vs
def At:Slt→List D
 |.mk n v=>.int .i64 n::AF v
def Kc:List Slt→List (List D)
 |[]=>[]
 |v::vs=>At v::Kc vs
end
mutual
def Nu:Msk→List D
 |.mk n s=>[.int .i64 n,.list (QZ s)]
def QZ:List Msk→List (List D)
 |[]=>[]
 |v::vs=>Nu v::QZ vs
end
theorem tn(l:List Val):J9 l=l.map AF:=by induction l with|nil=>rfl|cons v l a=>simp[J9,a]
theorem uN(l:List Pr):Kz l=l.map Ay:=by induction l with|nil=>rfl|cons v l a=>simp[Kz,a]
theorem tg(l:List Slt):Kc l=l.map At:=by induction l with|nil=>rfl|cons v l a=>simp[Kc,a]
theorem tk(l:List Msk):QZ l=l.map Nu:=by induction l with|nil=>rfl|cons v l a=>simp[QZ,a]
def Af(x:Val):List D:=[.int .i64 x.kind,.int .u64 x.bits,.str x.text,.list (x.list.map AF),.list (x.pairs.map Ay),.list (x.slots.map At),.list (x.raws.map A5)]
def Ci(x:Pr):List D:=[.int .i64 x.key.kind,.int .u64 x.key.bits,.str x.key.text,.list (x.key.list.map AF),.list (x.key.pairs.map Ay),.list (x.key.slots.map At),.list (x.key.raws.map A5),.int .i64 x.val.kind,.int .u64 x.val.bits,.str x.val.text,.list (x.val.list.map AF),.list (x.val.pairs.map Ay),.list (x.val.slots.map At),.list (x.val.raws.map A5)]
def Bq(x:Slt):List D:=[.int .i64 x.num,.int .i64 x.val.kind,.int .u64 x.val.bits,.str x.val.text,.list (x.val.list.map AF),.list (x.val.pairs.map Ay),.list (x.val.slots.map At),.list (x.val.raws.map A5)]
def eJ(x:Msk):List D:=[.int .i64 x.num,.list (x.subs.map Nu)]
theorem Gi(v:Val):AF v=Af v:=by
 cases v;simp[AF,Af,tn,uN,tg,Val.kind,Val.bits,Val.text,Val.list,Val.pairs,Val.slots,Val.raws]
theorem J5(v:Pr):Ay v=Ci v:=by cases v;simp[Ay,Gi,Af,Ci,Pr.key,Pr.val]
theorem JT(v:Slt):At v=Bq v:=by cases v;simp[At,Gi,Af,Bq,Slt.num,Slt.val]
theorem za(v:Msk):Nu v=eJ v:=by cases v;simp[Nu,eJ,tk,Msk.num,Msk.subs]
structure Typ where
 kind:Int
 name:ByteArray
deriving Inhabited,DecidableEq
def Ca(x:Typ):List D:=[.int .i64 x.kind,.str x.name]
structure Nt where
 name:ByteArray
 val:Val
deriving Inhabited
def BK(x:Nt):List D:=[.str x.name,.int .i64 x.val.kind,.int .u64 x.val.bits,.str x.val.text,.list (x.val.list.map AF),.list (x.val.pairs.map Ay),.list (x.val.slots.map At),.list (x.val.raws.map A5)]
structure Fld where
 num:Int
 name:ByteArray
 card:Int
 key:Int
 type:Typ
 union:ByteArray
 hasDefault:Bool
 dflt:Val
 notes:List Nt
deriving Inhabited
def Ap(x:Fld):List D:=[.int .i64 x.num,.str x.name,.int .i64 x.card,.int .i64 x.key,.int .i64 x.type.kind,.str x.type.name,.str x.union,.bool x.hasDefault,.int .i64 x.dflt.kind,.int .u64 x.dflt.bits,.str x.dflt.text,.list (x.dflt.list.map AF),.list (x.dflt.pairs.map Ay),.list (x.dflt.slots.map At),.list (x.dflt.raws.map A5),.list (x.notes.map BK)]
structure Spn where
 lo:Int
 hi:Int
deriving Inhabited,DecidableEq
def B8(x:Spn):List D:=[.int .i64 x.lo,.int .i64 x.hi]
structure By where
 b:UInt8
deriving Inhabited,DecidableEq
def By.v(x:By):Int:=x.b.toNat
def zf(x:By):List D:=[.int .u8 x.v]
structure Msg where
 name:ByteArray
 fields:List Fld
 reserved:List Spn
 gone:List ByteArray
 notes:List Nt
deriving Inhabited
def Au(x:Msg):List D:=[.str x.name,.list (x.fields.map Ap),.list (x.reserved.map B8),.list (x.gone.map AQ),.list (x.notes.map BK)]
structure Itm where
 name:ByteArray
 num:Int
 notes:List Nt
deriving Inhabited
def B7(x:Itm):List D:=[.str x.name,.int .i64 x.num,.list (x.notes.map BK)]
structure Enm where
 name:ByteArray
 opn:Bool
 items:List Itm
 reserved:List Spn
 notes:List Nt
deriving Inhabited
def Bj(x:Enm):List D:=[.str x.name,.bool x.opn,.list (x.items.map B7),.list (x.reserved.map B8),.list (x.notes.map BK)]
structure Mth where
 name:ByteArray
 inn:ByteArray
 out:ByteArray
 shape:Int
 notes:List Nt
deriving Inhabited
def FW(x:Mth):List D:=[.str x.name,.str x.inn,.str x.out,.int .i64 x.shape,.list (x.notes.map BK)]
structure Svc where
 name:ByteArray
 methods:List Mth
 notes:List Nt
deriving Inhabited
def CH(x:Svc):List D:=[.str x.name,.list (x.methods.map FW),.list (x.notes.map BK)]
structure Scm where
 messages:List Msg
 enums:List Enm
 services:List Svc
deriving Inhabited
def Al(x:Scm):List D:=[.list (x.messages.map Au),.list (x.enums.map Bj),.list (x.services.map CH)]
structure Fil where
 name:ByteArray
 space:ByteArray
 imports:List ByteArray
 messages:List Msg
 enums:List Enm
 services:List Svc
deriving Inhabited
def zb(x:Fil):List D:=[.str x.name,.str x.space,.list (x.imports.map AQ),.list (x.messages.map Au),.list (x.enums.map Bj),.list (x.services.map CH)]
structure Prb where
 dfn:ByteArray
 num:Int
 err:Int
deriving Inhabited,DecidableEq
def Ae(x:Prb):List D:=[.str x.dfn,.int .i64 x.num,.int .i64 x.err]
structure Stp where
 num:Int
 pos:Int
 hasKey:Bool
 key:Val
deriving Inhabited
structure Edt where
 path:List Stp
 kind:Int
 val:Val
deriving Inhabited
class Mv (V:Type) where
 q:Bool
 e:V→List D
 z:V
def Da{V:Type}[Mv V](p:ByteArray×V):List D:=.str p.1::Mv.e p.2
instance:Mv (List Int):=⟨false,fun x=>[.list (x.map pu)],[]⟩
instance (V:Type) [Mv V]:Mv (List (ByteArray×V)):=⟨false,fun m=>[.map (Mv.q V) (m.map Da)],[]⟩
structure Web where
 messages:List (ByteArray×Msg)
 enums:List (ByteArray×Bool)
deriving Inhabited
structure Lst where
 dfn:ByteArray
 l:List Prb
deriving Inhabited
structure Acs where
 m:Msg
 s:Scm
deriving Inhabited
structure Nod where
 kind:Int
 bits:Int
 text:ByteArray
 list:Int
 pairs:Int
 slots:Int
 raws:Int
deriving Inhabited,DecidableEq
def qm(x:Nod):List D:=[.int .i64 x.kind,.int .u64 x.bits,.str x.text,.int .i64 x.list,.int .i64 x.pairs,.int .i64 x.slots,.int .i64 x.raws]
structure Lnk where
 files:List Fil
 f:Fil
 known:List ByteArray
 messages:List ByteArray
 enums:List Enm
deriving Inhabited
def qq:Raw:=⟨0,0,0,⟨#[]⟩⟩
def Ku:Val:=.mk 0 0 ⟨#[]⟩ [] [] [] []
def y9:Pr:=.mk Ku Ku
def qu:Slt:=.mk 0 Ku
def zd:Msk:=.mk 0 []
def pO:Typ:=⟨0,⟨#[]⟩⟩
def y8:Nt:=⟨⟨#[]⟩,Ku⟩
def qB:Fld:=⟨0,⟨#[]⟩,0,0,pO,⟨#[]⟩,false,Ku,[]⟩
def pq:Spn:=⟨0,0⟩
def zg:By:=⟨0⟩
def qb:Msg:=⟨⟨#[]⟩,[],[],[],[]⟩
def qe:Itm:=⟨⟨#[]⟩,0,[]⟩
def pr:Enm:=⟨⟨#[]⟩,false,[],[],[]⟩
def qg:Mth:=⟨⟨#[]⟩,⟨#[]⟩,⟨#[]⟩,0,[]⟩
def qh:Svc:=⟨⟨#[]⟩,[],[]⟩
def zc:Fil:=⟨⟨#[]⟩,⟨#[]⟩,[],[],[],[]⟩
def pk:Prb:=⟨⟨#[]⟩,0,0⟩
end Go.Eng
namespace Go.Eng
set_option linter.all false
open Go Go.RowKit
def GX:List Nat→Code→Code
 |[],c=>c
 |0::p,.seq a _=>GX p a
 |_::p,.seq _ b=>GX p b
 |0::p,.cond _ a _=>GX p a
 |_::p,.cond _ _ b=>GX p b
 |_::p,.block _ c=>GX p c
 |_::p,.loop c=>GX p c
 |_::p,.scope c=>GX p c
 |_,c=>c
def Ar(f:Func):Code:=f.body.getD .skip
def Ac{α:Type}(e:α→List D)(xs:List α):List AV:=((xs.map e).flatten).map .d
theorem D2{α:Type}(e:α→List D)(xs:List α):Gv (Ac e xs):=fun x a=>by
 obtain⟨d,_,rfl⟩:=YU.1 a;rfl
theorem Gg{α:Type}{e:α→List D}{sz:Nat}(he:∀x,(e x).length=sz)(xs:List α):(Ac e xs).length=xs.length*sz:=by
 unfold Ac
 induction xs with
 |nil=>simp
 |cons x xs a=>simp only[YD,Y4,Ij,Yw,he,EW,YN]at a⊢;omega
theorem PZ{α:Type}(e:α→List D)(xs ys:List α):Ac e (xs++ys)=Ac e xs++Ac e ys:=by simp[Ac]
section
variable {P:Program} {n:Nat} {C:Cx} {τ:St} {Q:Exit→St→Prop}
theorem sI{c:Code}(id:Nat)(x:Code)(b:c=.block id x)(h:LW P n C x τ (fun e τ'=>match e with|.exit i=>(match Nat.beq i id with|true=>Q .normal τ'|false=>Q (.exit i) τ')|e=>Q e τ')):LW P n C c τ Q:=b▸uf (h.mono fun e τ' a=>by
 cases e with
 |exit i=>
  simp only at a⊢
  split at a
  ·rename_i he;rw[Yi (Ya he)];exact a
  ·rename_i he;rw[Yj (by rintro rfl;simp at he)];exact a
 |_=>exact a)
end
theorem sg{P:Program}{T:Nat→Option TI}{n:Nat}{f:FuncId}{fn:Func}(e:List ResultVar)(c:Code){l:Nat}{xs:List AV}{H:Hp}{a:AV→Hp→Prop}(θ:Nat→AV)(ys:List AV)
  (j:P.funcs[f]?=some fn) (hb:fn.body=some c) (b:(fn.name== "runtime.NumGoroutine")=false) (o:fn.ntmps=n) (r:fn.results.toList=e) (s:xs.length≤n) (g:AX P T)
  (d:Aj ⟨fun k=>(l+1,k.2),fun _=>0,θ,H,fun _=>False⟩ ys=xs) (h:∀B:Base,LW P n (RT l θ H B) c (Aa (C7 0 ys) []) (FQ T e 0 (fun y _=>a y H))):Zca P f l xs H a:=
 iw e (RT l θ H) (γ:=fun _=>0) (LPost:=fun y _=>a y H) j hb b o r s g (fun B=>gK l B θ H) (fun B=>⟨rfl,rfl,rfl,trivial⟩) (fun B=>d) (fun _=>rfl) (fun _=>rfl) (fun B k m=>by simp[As,Ea]at m) (fun B i hi=>absurd hi (Il _))
  (fun B γ y u t _ q p hy=>by rw[hy rfl,vA p];exact q) h
theorem wD{α:Type}(e:α→List D)(xs:List α):Bm ((xs.map e).length:Nat) xs.length:=by simp[Bm]
theorem jd{α:Type}{e e':α→List D}{xs:List α}{i:Nat}{x:α}(a:xs[i]?=some x)(he:∀x,e x=e' x):HU (xs.map e) (i:Nat) (e' x):=⟨by omega,by simp[a,he]⟩
theorem xn{α:Type}{e e':α→List D}{xs:List α}{i:Nat}{z:α}(hi:i<xs.length)(he:∀x,e x=e' x):HU (xs.map e) (i:Nat) (e' (xs.getD i z)):=by
 refine jd ?_ he
 grind
theorem kN{a r:Int}(h:a=r)(b: -9223372036854775808≤r)(c:r<9223372036854775808):B6 .i64 a r:=by
 subst h;exact IntWalk.i64_in _ ⟨b,by omega⟩
theorem oy{i len sz:Nat}(h:i<len):KJ (i:Nat) len 0 sz (i*sz):=⟨by omega,by omega,by simp⟩
theorem vq{sz:Nat}{e:List D}(C:List AV)(he:e.length=sz):EL sz C (.d (.list [e])) 1 (e.map .d):=by
 refine⟨Yk.2 fun x a=>?_,fun q b=>?_,rfl,by simp⟩
 ·obtain⟨d,_,rfl⟩:=YU.1 a;rfl
 grind
theorem VJ{α:Type}{sz:Nat}{e:α→List D}(C:List AV)(xs:List α)(he:∀x,(e x).length=sz):EL sz C (.d (.list (xs.map e))) xs.length (Ac e xs):=by
 refine⟨Yk.2 fun x a=>?_,fun q b=>?_,by simp,rfl⟩
 ·obtain⟨d,_,rfl⟩:=YU.1 a;rfl
 grind
theorem ve{α:Type}{sz byt:Nat}{e:α→List D}(xs ys:List α){a:Nat}(he:∀x,(e x).length=sz)(b:xs.length+ys.length=a)(hb:a*byt≤140737488355328):
  KP (Ac e xs) 0 xs.length ys.length sz byt (Ac e ys) (Ac e (xs++ys)) a:=
 ⟨by rw[Gg he,YS],by rw[LC,He,PZ],b,hb⟩
theorem u2{α:Type}(e:α→List D)(x:α):Ac e [x]=(e x).map .d:=by simp[Ac]
theorem WH{α:Type}{sz:Nat}{e:α→List D}(xs:List α)(b:sz≠0)(he:∀x,(e x).length=sz):F3 (Ac e xs) 0 xs.length sz (xs.map e):=
 ⟨by simp,b,fun q a=>by obtain⟨x,_,rfl⟩:=YU.1 a;exact he x,by rw[Gg he];simp,by rw[LC,He,←Gg he xs,SE];rfl⟩
theorem gZ{α:Type}{e e':α→List D}{xs:List α}{i:Int}{z:α}(a:0≤i)(hi:i<xs.length)(he:∀x,e x=e' x):HU (xs.map e) i (e' (xs.getD i.toNat z)):=by
 have h:=xn (e:=e) (e':=e') (xs:=xs) (i:=i.toNat) (z:=z) (by omega) he
 grind
theorem oA(s:ByteArray):s.data.toList.length=s.size:=by simp
theorem vK{s:ByteArray}{i:Nat}{x:UInt8}(h:s.data.toList[i]?=some x):HO s (i:Nat) (x.toNat:Nat):=⟨by omega,x,by simpa using h,rfl⟩
theorem jk{s:ByteArray}{i:Nat}(h:i<s.size):HO s (i:Nat) ((s.data.toList.getD i 0).toNat:Nat):=by
 refine vK ?_
 rw[Yu,Ye (by rw[oA];exact h)];rfl
theorem VG{α:Type}{sz byt c:Nat}{e:α→List D}{news:List AV}(xs ys:List α)(he:∀x,(e x).length=sz)(a:ys.length=c)(b:news=Ac e ys)(hb:(xs.length+ys.length)*byt≤140737488355328):
  KP (Ac e xs) 0 xs.length c sz byt news (Ac e (xs++ys)) (xs++ys).length:=by
 subst a;subst b
 exact ve xs ys he (by rw[Yw]) (by rw[Yw];exact hb)
section
variable {P:Program} {l:Nat} {r:Ren} {f:FuncId} {xs xs':List AV} {hb:List (Ab×Blk)} {x x':AV}
def BJ(P:Program)(l:Nat)(no:Ab→Prop)(H:Hp)(c:AV)(e:List AV)(y:AV):Prop:=
 ∃f first a,c=.fn (.func f) first a∧∀l' b,l≤l'→(∀k:Ab,k.1≤l→¬no k→b k=H k)→Zca P f l' (first++e++a) b (fun g d=>g=y∧d=b)
theorem uY{i:Nat}{c:AV}(j:r.θ i=c)(h:BJ P l r.no r.H0 c xs' x')(d:Aj r xs=xs')(e:ren r x=x'):Kk P l r i xs hb x:=by
 obtain⟨f,first,a,rfl,h⟩:=h
 exact⟨f,first,a,j,fun b _ g=>by rw[d,e];exact h (l+1) b (Nat.le_succ l) g⟩
theorem uU{H:Hp}{no:Ab→Prop}{c:List AV}{y:AV}(h:∀l' a,Zca P f l' c a (fun d b=>d=y∧b=a)):BJ P l no H (.fn (.func f) [] []) c y:=
 ⟨f,[],[],rfl,fun l' a _ _=>by simpa using h l' a⟩
end
section
variable {P:Program} {T:Nat→Option TI} {n:Nat} {C:Cx} {τ:St} {Q:Exit→St→Prop}
theorem xo(g:CxOk C)(k:AX P T)(hm:P.follows .mixedOrders=true){os:Nat}{fx:List Nat}(d:C.outs=os)(i:C.fx=fx){c:Code}(a:AT)(lf e:Lf)(f:List ResultVar){b:AV→List Blk→Prop}(q:Ren→(Exit→St→Prop)→(AV→List Blk→Prop)→Prop)
  (l:∀r Q b,Cd P T C.l n os r c a τ (KB T f os fx r b lf e Q)=q r Q b) (j:∀τ,FQ T f os b .ret τ→Q .ret τ) (h:∀r,r.θ=C.θ→r.H0=C.H0→r.κ=C.κ→r.no=C.no→q r Q b):LW P n C c τ Q:=
 nh g k hm a lf e (by rw[d];exact j) (fun γ=>by rw[d,i,l];exact h _ rfl rfl rfl rfl)
theorem wR(e:CxOk C)(g:AX P T)(hm:P.follows .mixedOrders=true){os:Nat}(f:C.outs=os){c:Code}(a:AT)(d:List ResultVar){b:AV→List Blk→Prop}(q:Ren→(AV→List Blk→Prop)→Prop)
  (i:∀r b,Cd P T C.l n os r c a τ (KF T d os b)=q r b) (h:∀r,r.θ=C.θ→r.H0=C.H0→r.κ=C.κ→r.no=C.no→q r b):LW P n C c τ (FQ T d os b):=by
 subst f
 exact nR e g hm a (fun γ=>by rw[i];exact h _ rfl rfl rfl rfl)
mutual
theorem uH{H:Hp}:∀(x:AV) {a:AT} {K c:AV→AT→Prop},(∀y a,K y a→c y a)→frz H x a K→frz H x a c
 |.d x,a,K,c,b,h=>b _ _ h
 |.e0,a,K,c,b,h=>b _ _ h
 |.agg xs,a,K,c,b,h=>gN xs (fun ys a h=>b _ _ h) h
 |.ref k g off m,a,K,c,b,h=>by
  unfold frz at h⊢
  grind
 |.top,a,K,c,b,h=>by simp only[frz]at h
 |.p _,a,K,c,b,h=>by simp only[frz]at h
 |.ptr _ _ _,a,K,c,b,h=>by simp only[frz]at h
 |.mp k g,a,K,c,b,h=>by
  unfold frz at h⊢
  grind
 |.iptr _ _,a,K,c,b,h=>by simp only[frz]at h
 |.ifc _ _ _,a,K,c,b,h=>b _ _ h
 |.fn _ _ _,a,K,c,b,h=>by simp only[frz]at h
 |.tup _,a,K,c,b,h=>by simp only[frz]at h
theorem gN{H:Hp}:∀(xs:List AV) {a:AT} {K b:List AV→AT→Prop},(∀y a,K y a→b y a)→HG H xs a K→HG H xs a b
 |[],a,K,b,c,h=>c _ _ h
 |x::xs,a,K,b,c,h=>by
  simp only[HG]at h⊢
  exact uH x (fun y a h=>gN xs (fun ys a h=>c _ _ h) h) h
end
end
theorem Gc{α:Type}(e:α→List D)(x:α)(xs:List α):Ac e (x::xs)=(e x).map .d++Ac e xs:=by simp[Ac]
theorem Mm{α:Type}{e:α→List D}{sz:Nat}(hl:∀x,(e x).length=sz):∀(xs:List α) (j:Nat),(Ac e xs).drop (j*sz)=Ac e (xs.drop j)
 |[],j=>by simp[Ac]
 |x::xs,0=>by simp
 |x::xs,j+1=>by
  have a:((e x).map AV.d).length=sz:=by rw[YD,hl]
  rw[Gc,YN,JA,LB,←Lz,List.drop_left' a,Mm hl xs j]
  rfl
theorem VI{α:Type}{e:α→List D}{sz:Nat}(hl:∀x,(e x).length=sz):∀(xs:List α) (j:Nat),(Ac e xs).take (j*sz)=Ac e (xs.take j)
 |[],j=>by simp[Ac]
 |x::xs,0=>by simp[Ac]
 |x::xs,j+1=>by
  have a:((e x).map AV.d).length=sz:=by rw[YD,hl]
  rw[Gc,List.take_succ_cons,Gc,YN,JA,LB,List.take_append,a,Nat.add_sub_cancel_left,VI hl xs j,N1 (by omega)]
theorem iR{α:Type}{xs:List α}{j:Nat}{z:α}(a:j<xs.length):xs.drop j=xs.getD j z::xs.drop (j+1):=by
 rw[In a,Yu,Ye a];rfl
theorem fE{α:Type}{e e':α→List D}{xs:List α}{j sz:Nat}{z:α}(a:j<xs.length)(hl:∀x,(e x).length=sz)(he:∀x,e x=e' x):Dd (Ac e xs) (j*sz) ((e' (xs.getD j z)).map .d):=by
 unfold Dd
 rw[Mm hl,iR (z:=z) a,Gc,he,List.take_left]
theorem rl{α:Type}{e e':α→List D}{xs:List α}{j sz o:Nat}{z:α}{c:List AV}(b:j<xs.length)(hl:∀x,(e x).length=sz)(he:∀x,e x=e' x)
  (a:(((e' (xs.getD j z)).map .d).drop o).take c.length=c) (f:o+c.length≤sz):Dd (Ac e xs) (j*sz+o) c:=by
 unfold Dd
 have d:((e' (xs.getD j z)).map AV.d).length=sz:=by rw[YD,←he,hl]
 rw[←Lz,Mm hl,iR (z:=z) b,Gc,he,aw (by omega),Ss (by rw[Fw];omega),a]
theorem xG{α:Type}{e:α→List D}{xs:List α}{j sz:Nat}{y:α}(b:j<xs.length)(hl:∀x,(e x).length=sz):Ha (Ac e xs) (j*sz) ((e y).map .d) (Ac e (xs.set j y)):=by
 have a:((e y).map AV.d).length=sz:=by rw[YD,hl]
 have c:(j+1)*sz≤xs.length*sz:=YX _ b
 rw[YN,JA]at c
 refine⟨by rw[a,Gg hl];omega,?_⟩
 rw[a,VI hl,show j*sz+sz=(j+1)*sz from by rw[YN,JA],Mm hl,ao,Yi b,PZ,Gc,El]
def R0:D→Option Value
 |.int k n=>some (.int k n)
 |.bool b=>some (.bool b)
 |.str s=>some (.string s)
 |.list _=>none
 |.map _ _=>none
theorem na{w:World}{S:Nat→Prop}{d:D}{u v:Value}(h:R0 d=some v)(a:RepD w S d u):u=v:=by
 cases a<;>simp only[R0,Yg]at h<;>first|exact h|cases h
theorem wb{w:World}{S:Nat→Prop}{H:Hp}{m:Mu}{l:Nat}{ds:List D}{V:List Value}{vs:Array Value}(h:ds.map R0=V.map some)(f:Iz w S H m l (ds.map .d) vs):vs=V.toArray:=by
 have hl:ds.length=V.length:=by simpa using congrArg List.length h
 apply CD
 apply List.ext_getElem?
 intro i
 obtain⟨b,e⟩:=f
 have b:ds.length=vs.size:=by simpa using b
 rcases Yz i ds.length with hi|hi
 ·have c:vs[i]?=some vs[i]:=Ym (by omega)
  have j:=e i (.d ds[i]) vs[i] (by simp[Ye hi]) c
  have a:=congrArg (fun l=>l[i]?) h
  simp only[YJ,Ye hi,Ye (show i<V.length by omega),YV,Yg]at a
  rw[Yx,c,Ye (show i<V.length by omega)]
  cases j with|d _ _ g=>rw[na a g]
 grind
def CG(r:Ren):List (Ab×Blk)→Hp→Hp
 |[],H=>H
 |(k,b)::a,H=>CG r a (updH H (r.κ k) (AA r k b))
def Gx(P:Program)(l:Nat)(r:Ren)(f:FuncId)(xs:List AV)(d:List (Ab×Blk))(x:AV)(Ao:List (Ab×Blk))(fr:List Ab):Prop:=
 ∀a,(∀p∈d,(a (r.κ p.1)).g=r.γ p.1+p.2.g∧(p.2.live=true→a (r.κ p.1)=AA r p.1 p.2))→(∀k:Ab,k.1≤l→¬r.no k→a k=r.H0 k)→
  Zca P f (l+1) (Aj r xs) a (fun y b=>∃c:Ab→Nat,(∀k,k∉fr→c k=r.γ k)∧y=ren ⟨r.κ,c,r.θ,r.H0,r.no⟩ x∧b=CG ⟨r.κ,c,r.θ,r.H0,r.no⟩ Ao a)
mutual
def FA(fr:List Ab):AV→Bool
 |.ref k _ _ _=>fr.any (Bi k)
 |.ptr k _ _=>fr.any (Bi k)
 |.mp k _=>fr.any (Bi k)
 |.fn _ xs ys=>Gj fr xs||Gj fr ys
 |.agg xs=>Gj fr xs
 |.tup xs=>Gj fr xs
 |.top=>false
 |.d _=>false
 |.e0=>false
 |.p _=>false
 |.iptr _ _=>false
 |.ifc _ _ _=>false
def Gj(fr:List Ab):List AV→Bool
 |[]=>false
 |x::xs=>FA fr x||Gj fr xs
end
def Do(fr:List Ab):List (Nat×AV)→List (Nat×AV)
 |[]=>[]
 |(j,x)::r=>(j,match FA fr x with|true=>.top|false=>x)::Do fr r
def Cv(ks fr fl:List Ab):List (Ab×Blk)→List (Ab×Blk)
 |[]=>[]
 |(k,b)::r=>match ks.any (Bi k),fl.any (Bi k)||!Gj fr b.cells with
  |false,true=>(k,b)::Cv ks fr fl r
  |_,_=>Cv (k::ks) fr fl r
def FJ:Option Nat→AV→List (Nat×AV)→List (Nat×AV)
 |some d,x,r=>(d,x)::r
 |none,_,r=>r
def Bk(os:Nat)(k:Ab):Bool:=Nat.beq k.1 1||(Nat.beq k.1 0&&Nat.ble (k.2+1) os)
def C3(os:Nat):List (Ab×Blk)→Bool
 |[]=>true
 |(k,b)::r=>Bk os k&&b.live&&!(r.any fun p=>Bi k p.1)&&C3 os r
mutual
theorem gg{r:Ren}{b:Ab→Nat}{fr:List Ab}(a:∀k,k∉fr→b k=r.γ k):∀(x:AV),FA fr x=false→ren ⟨r.κ,b,r.θ,r.H0,r.no⟩ x=ren r x
 |.ref k g off n,h=>by simp only[FA]at h;simp only[ren];rw[a k (Qf h)]
 |.ptr k g off,h=>by simp only[FA]at h;simp only[ren];rw[a k (Qf h)]
 |.mp k g,h=>by simp only[FA]at h;simp only[ren];rw[a k (Qf h)]
 |.fn f xs ys,h=>by
  simp only[FA,F8]at h
  have c:=JI a xs h.1
  have d:=JI a ys h.2
  cases f<;>simp only[ren,c,d]
 |.agg xs,h=>by simp only[FA]at h;simp only[ren,JI a xs h]
 |.tup xs,h=>by simp only[FA]at h;simp only[ren,JI a xs h]
 |.top,_=>by simp[ren]
 |.d _,_=>by simp[ren]
 |.e0,_=>by simp[ren]
 |.p _,_=>by simp[ren]
 |.iptr _ _,_=>by simp[ren]
 |.ifc _ _ _,_=>by simp[ren]
theorem JI{r:Ren}{b:Ab→Nat}{fr:List Ab}(a:∀k,k∉fr→b k=r.γ k):∀(xs:List AV),Gj fr xs=false→Aj ⟨r.κ,b,r.θ,r.H0,r.no⟩ xs=Aj r xs
 |[],_=>by simp[Aj]
 |x::xs,h=>by
  simp only[Gj,F8]at h
  simp only[Aj,gg a x h.1,JI a xs h.2]
theorem Qf{k:Ab}{fr:List Ab}(h:fr.any (Bi k)=false):k∉fr:=fun hm=>by
 have:fr.any (Bi k)=true:=YT.2 ⟨k,hm,BZ.2 rfl⟩
 grind
end
def BC:Code→Array Oper
 |.region _ ops _=>ops
 |_=>#[]
def lX:Code→Bool
 |.region _ _ false=>true
 |_=>false
def FH{α:Type}:Nat→List α→List α
 |0,l=>l
 |_+1,[]=>[]
 |n+1,_::l=>FH n l
def Gs{α:Type}:Nat→List α→List α
 |0,_=>[]
 |_+1,[]=>[]
 |n+1,x::l=>x::Gs n l
theorem Wg{α:Type}:∀(n:Nat) (l:List α),FH n l=l.drop n
 |0,l=>rfl
 |n+1,[]=>rfl
 |n+1,x::l=>Wg n l
theorem P2{α:Type}:∀(n:Nat) (l:List α),Gs n l=l.take n
 |0,l=>rfl
 |n+1,[]=>rfl
 |n+1,x::l=>by rw[Gs,P2 n l];rfl
def LO(P:Program)(n:Nat)(C:Cx)(c:Code)(k:Nat)(τ:St)(Q:Exit→St→Prop):Prop:=
 ∀γ σ a w,C.G γ→RG (C.r γ) C.l C.outs [] τ σ→R C.l n C.B σ a w→wpList P (BC c) (fun e d w'=>∃b,Is n C (Q e) b∧R C.l n C.B b d w') ((BC c).toList.drop k) a w
def FC(c:Code)(k:Nat):Option (Option Nat×Operand×List Operand):=
 match A6 (BC c).toList k with
 |some o=>(match o.guard,o.op with
  |none,.call cl=>(match cl.callee with|.value f=>some (o.dst,f,cl.args.toList)|_=>none)
  |_,_=>none)
 |none=>none
def Ei(C:Cx):List (Ab×Blk)→Prop
 |[]=>True
 |(k,_)::r=>match Nat.beq k.1 1 with|true=>Ei C r|false=>C.no (C.κ k)∧Ei C r
def H1(H:Hp):List Ab→Prop
 |[]=>True
 |k::r=>Gv (H k).cells∧H1 H r
def K1(fr:List Ab)(Ao:List (Ab×Blk)):Bool:=fr.all fun k=>Ao.any fun p=>Bi k p.1
def JW(fr:List Ab)(fx:List Nat):Bool:=fr.all fun k=>!(Nat.beq k.1 0&&fx.any (Nat.beq k.2))
def Gq:List (Ab×Blk)→Bool
 |[]=>true
 |(_,b)::r=>Nat.beq b.g 0&&Gq r
def cX:Option Nat→(Nat→AV)→AV→Nat→AV
 |some d,s,v=>upd s d v
 |none,s,_=>s
def Kn(n:Nat):Option Nat→Bool
 |some d=>Nat.ble (d+1) n
 |none=>true
section
variable {P:Program} {T:Nat→Option TI} {n:Nat} {C:Cx} {τ:St} {Q:Exit→St→Prop}
theorem rZ{c:Code}(b:lX c=true)(h:LO P n C c 0 τ Q):LW P n C c τ Q:=by
 cases c with
 |region id ops d=>
  cases d with
  |true=>cases b
  |false=>
   obtain⟨i,rfl⟩:∃l:List Oper,ops=l.toArray:=⟨ops.toList,by simp⟩
   intro γ σ g e a w f
   have:=h γ σ a w g e f
   simp only[BC,He]at this
   exact wp_region_lit this
 |_=>cases b
theorem yD(d:CxOk C)(A:AX P T){os:Nat}{fx:List Nat}(y:C.outs=os)(v:C.fx=fx){c:Code}{k:Nat}(m:Nat)(a:AT)(lf:Lf)(q:Ren→(St→Prop)→Prop)
  (E:∀r Φ,AW r os a τ (fun τ a=>EI P T C.l n r ((BC c).toList.map (·.dst)) (Gs m (FH k (BC c).toList)) [] a (fun τ' env f=>AW r os f (C5 env τ') (fun τ _=>Dp fx lf τ Φ)) τ)=q r Φ)
  (h:∀r,r.θ=C.θ→r.H0=C.H0→r.κ=C.κ→r.no=C.no→q r (fun τ'=>LO P n C c (k+m) τ' Q)):LO P n C c k τ Q:=by
 subst y
 subst v
 intro γ σ g w D x z
 have o:=h (C.r γ) rfl rfl rfl rfl
 rw[←E]at o
 obtain⟨R,p,N,u,i,j⟩:=BQ (n:=n) d a o x
 have e:(BC c).toList.drop k=Gs m (FH k (BC c).toList)++(BC c).toList.drop (k+m):=by
  rw[P2,Wg,←Lz,Hj]
 rw[e]
 refine JN (d.ren γ) A (B:=C.B) _ (fun τ' l f U b w' J K L=>?_) _ [] p R N g w u i (j _ _ z)
 obtain⟨V,s,t⟩:=Mp (n:=n) K
 obtain⟨X,S,W,f1,f2,f3⟩:=BQ (n:=n) d f J s
 obtain⟨M,Y,O,F,G,H,I⟩:=Ge (n:=n) d f1 D f2
 exact G M O b w' F H (I _ _ (f3 _ _ (t _ _ L)))
theorem ny(b:CxOk C)(A:AX P T){os:Nat}{fx:List Nat}(y:C.outs=os)(v:C.fx=fx){c:Code}{k:Nat}(a:AT)(lf:Lf)(q:Ren→(Exit→St→Prop)→Prop)
  (E:∀r Φ,AW r os a τ (fun τ a=>EI P T C.l n r ((BC c).toList.map (·.dst)) (FH k (BC c).toList) [] a (fun τ' env d=>AW r os d (C5 env τ') (fun τ _=>Dp fx lf τ (Φ .normal))) τ)=q r Φ)
  (h:∀r,r.θ=C.θ→r.H0=C.H0→r.κ=C.κ→r.no=C.no→q r Q):LO P n C c k τ Q:=by
 subst y
 subst v
 intro γ σ f w D x z
 have m:=h (C.r γ) rfl rfl rfl rfl
 rw[←E]at m
 obtain⟨O,p,N,u,g,i⟩:=BQ (n:=n) b a m x
 have e:(BC c).toList.drop k=FH k (BC c).toList++[]:=by rw[Wg,Og]
 rw[e]
 refine JN (b.ren γ) A (B:=C.B) _ (fun τ' l d U j w' J K L=>?_) _ [] p O N f w u g (i _ _ z)
 obtain⟨V,s,t⟩:=Mp (n:=n) K
 obtain⟨X,S,W,f1,f2,f3⟩:=BQ (n:=n) b d J s
 obtain⟨M,R,o,F,G,H,I⟩:=Ge (n:=n) b f1 D f2
 unfold wpList
 exact⟨o,⟨M,R,o,F,G,H,Wk.refl _⟩,I _ _ (f3 _ _ (t _ _ L))⟩
theorem P4:∀{hs:List (Ab×Blk)},Gq hs=true→∀k,(As hs k).g=0
 |[],_,k=>rfl
 |(k',b)::r,h,k=>by
  simp only[Gq,Yb]at h
  simp only[As]
  split
  ·exact Ya h.1
  ·exact P4 h.2 k
theorem is{k:Ab}{ks:List Ab}:ks.any (Bi k)=true↔k∈ks:=by
 rw[YT]
 exact⟨fun⟨q,a,b⟩=>by rw[BZ.1 b];exact a,fun h=>⟨k,h,BZ.2 rfl⟩⟩
theorem wS(a b:List (Ab×Blk))(k:Ab):As (a++b) k=if k∈a.map (·.1)then As a k else As b k:=by
 induction a with
 |nil=>simp
 |cons p a f=>
  obtain⟨q,d⟩:=p
  simp only[Hb,As,Y4,YK]
  cases c:Bi q k with
  |true=>rw[Yi (.inl (BZ.1 c).symm)]
  |false=>
   have:k≠q:=fun e=>by rw[BZ.2 e.symm]at c;cases c
   grind
theorem Mo{fr fl:List Ab}:∀(hs:List (Ab×Blk)) (ks:List Ab) (k:Ab),(k∈ks→As (Cv ks fr fl hs) k=Ea)∧(k∉ks→(As (Cv ks fr fl hs) k=As hs k∧(k∈fl∨Gj fr (As hs k).cells=false))∨As (Cv ks fr fl hs) k=Ea)
 |[],ks,k=>⟨fun _=>rfl,fun _=>.inr rfl⟩
 |(q,b)::r,ks,k=>by
  simp only[Cv]
  split
  ·rename_i d a
   have f:q∉ks:=fun hm=>by rw[is.2 hm]at d;cases d
   simp only[As]
   cases c:Bi q k with
   |true=>
    have c:=BZ.1 c
    subst c
    refine⟨fun h=>absurd h f,fun _=>.inl ⟨rfl,?_⟩⟩
    simp only[Yt,YF]at a
    rcases a with a|a
    ·exact .inl (is.1 a)
    grind
   |false=>exact Mo r ks k
  ·obtain⟨d,a⟩:=Mo (fr:=fr) (fl:=fl) r (q::ks) k
   refine⟨fun h=>d (YH _ h),fun h=>?_⟩
   by_cases c:k=q
   ·grind
   ·rcases a (fun hm=>(YK.1 hm).elim c h)with⟨i,j⟩|e
    ·have:Bi q k=false:=by
      cases g:Bi q k with
      |true=>exact absurd (BZ.1 g).symm c
      |false=>rfl
     simp only[As,this]
     grind
    grind
theorem PU{r:Ren}:∀(Ao:List (Ab×Blk)) (H:Hp) (q:Ab),(∀p∈Ao,r.κ p.1≠q)→CG r Ao H q=H q
 |[],H,q,h=>rfl
 |(k,b)::a,H,q,h=>by
  simp only[CG]
  rw[PU a _ q (fun p c=>h p (YH _ c)),Av _ _ (fun e=>h (k,b) (YM ..) e.symm)]
theorem ic{r:Ren}{os:Nat}(d:∀q k:Ab,Bk os q=true→Bk os k=true→q≠k→r.κ q≠r.κ k):∀(Ao:List (Ab×Blk)) (H:Hp),C3 os Ao=true→∀k b,(k,b)∈Ao→CG r Ao H (r.κ k)=AA r k b∧As Ao k=b∧Bk os k=true∧b.live=true
 |[],H,_,k,b,hm=>by cases hm
 |(q,c)::rest,H,g,k,b,hm=>by
  simp only[C3,Yb,YF]at g
  obtain⟨⟨⟨i,u⟩,j⟩,m⟩:=g
  have f:∀p∈rest,p.1≠q:=fun p a e=>by
   have:(rest.any fun p=>Bi q p.1)=true:=YT.2 ⟨p,a,BZ.2 e.symm⟩
   rw[this]at j;cases j
  have h:∀(l:List (Ab×Blk)),C3 os l=true→∀p∈l,Bk os p.1=true:=by
   intro l
   induction l with
   |nil=>intro _ p a;cases a
   |cons p l w=>
    obtain⟨x,y⟩:=p
    intro hl p a
    simp only[C3,Yb]at hl
    rcases YK.1 a with rfl|a
    ·exact hl.1.1.1
    ·exact w hl.2 p a
  simp only[CG]
  rcases YK.1 hm with e|hm
  ·cases e
   refine⟨?_,by simp only[As,BZ.2 rfl],i,u⟩
   rw[PU rest _ _ (fun p a=>d _ _ (h rest m p a) i (f p a)),AH]
  ·obtain⟨n,o,s,t⟩:=ic d rest (updH H (r.κ q) (AA r q c)) m k b hm
   refine⟨n,?_,s,t⟩
   have:Bi q k=false:=by
    cases v:Bi q k with
    |true=>exact absurd (BZ.1 v).symm (f _ hm)
    |false=>rfl
   simp only[As,this]
   exact o
theorem WX:∀{Ao:List (Ab×Blk)},Ei C Ao→∀p∈Ao,p.1.1≠1→C.no (C.κ p.1)
 |(k,b)::r,h,p,c,a=>by
  simp only[Ei]at h
  split at h
  ·rename_i d
   rcases YK.1 c with rfl|c
   ·exact absurd (Ya d) a
   ·exact WX h p c a
  ·rcases YK.1 c with rfl|c
   ·exact h.1
   ·exact WX h.2 p c a
theorem Xg{H:Hp}:∀{ks:List Ab},H1 H ks→∀k∈ks,Gv (H k).cells
 |q::r,h,k,a=>by
  rcases YK.1 a with rfl|a
  ·exact h.1
  ·exact Xg h.2 k a
theorem Fa{os:Nat}{k:Ab}(h:Bk os k=true):k.1=1∨(k.1=0∧k.2<os):=by
 simp only[Bk,Yt,Yb]at h
 rcases h with h|⟨a,b⟩
 ·exact .inl (Ya h)
 ·exact .inr ⟨Ya a,Yf b⟩
theorem g9{fr:List Ab}:∀(ss:List (Nat×AV)) (j:Nat),AJ (Do fr ss) j=.top∨(AJ (Do fr ss) j=AJ ss j∧FA fr (AJ ss j)=false)
 |[],j=>.inl rfl
 |(i,x)::r,j=>by
  simp only[Do,AJ]
  split
  ·grind
  ·exact g9 r j
theorem tA(hC:CxOk C){os:Nat}{fx:List Nat}(hO:C.outs=os)(hF:C.fx=fx){c:Code}{k:Nat}{ss:List (Nat×AV)}{hs:List (Ab×Blk)}(l:Option Nat)(fo:Operand)(aZ:List Operand)(m:FC c k=some (l,fo,aZ))
  (f:FuncId) (first u xs:List AV) (hf:ev (AJ ss) fo=.fn (.func f) first u) (hxs:first++aZ.map (ev (AJ ss))++u=xs) (ks:List Ab) (J:List (Ab×Blk)) (hhb:(ks.map fun k=>(k,As hs k))=J)
  {ι:Type} (I:ι→Prop) (xF:ι→AV) (s:ι→List (Ab×Blk)) (fr fl:List Ab) (M:(JW fr fx&&Gq hs&&Kn n l&&ks.all (Bk os))=true) (t:∀i,(C3 os (s i)&&K1 fr (s i))=true) (H:∀i,Ei C (s i)) (hfl:H1 (As hs) fl)
  (T:∀r:Ren,r.θ=C.θ→r.H0=C.H0→r.κ=C.κ→r.no=C.no→∀V,(∀p∈J,(V (r.κ p.1)).g=r.γ p.1+p.2.g∧(p.2.live=true→V (r.κ p.1)=AA r p.1 p.2))→(∀k:Ab,k.1≤C.l→¬r.no k→V k=r.H0 k)→
   Zca P f (C.l+1) (Aj r xs) V (fun y W=>∃i,I i∧∃a:Ab→Nat,(∀k,k∉fr→a k=r.γ k)∧y=ren ⟨r.κ,a,r.θ,r.H0,r.no⟩ (xF i)∧W=CG ⟨r.κ,a,r.θ,r.H0,r.no⟩ (s i) V))
  (h:∀i,I i→LO P n C c (k+1) (Aa (FJ l (xF i) (Do fr ss)) (s i++Cv ((s i).map (·.1)) fr fl hs)) Q):LO P n C c k (Aa ss hs) Q:=by
 subst hO
 subst hF
 simp only[Yb]at M
 obtain⟨⟨⟨k3,k4⟩,k5⟩,k6⟩:=M
 intro γ σ act w hg z hR
 have hr:=hC.ren γ
 have hs':∀j,σ.s j=ren (C.r γ) (AJ ss j):=fun j=>(z.s j).1 AU
 have A:∀y:Operand,ev σ.s y=ren (C.r γ) (ev (AJ ss) y):=fun y=>ID (c:=[]) z AU (by cases y<;>rfl)
 unfold FC at m
 split at m
 case h_2=>cases m
 rename_i o ho
 split at m
 case h_2=>cases m
 rename_i cl hgd hopc
 split at m
 case h_2=>cases m
 rename_i fo' hcal
 simp only[Yg,Fv]at m
 obtain⟨hd,rfl,rfl⟩:=m
 rw[BT]at ho
 have hlt:k<(BC c).toList.length:=by
  grind
 have U:(BC c).toList.drop k=o::(BC c).toList.drop (k+1):=by
  rw[In hlt]
  grind
 rw[U]
 have L:∀q k:Ab,Bk C.outs q=true→Bk C.outs k=true→q≠k→(C.r γ).κ q≠(C.r γ).κ k:=fun q k Z h2 h3=>hr.ne (Fa Z) (Fa h2) h3
 have hA:=T (C.r γ) rfl rfl rfl rfl σ.H (fun p E=>by
  rw[←hhb]at E
  obtain⟨q,g,rfl⟩:=YU.1 E
  have hq':=Fa (Yk.1 k6 q g)
  refine⟨?_,fun hl=>z.h q hl⟩
  obtain⟨q1,q2⟩:=q
  simp only at hq'
  rcases hq' with rfl|⟨rfl,h2⟩
  ·have:=z.g q2
   rw[←hr.own]at this
   exact this
  ·exact z.go q2 h2) z.o
 have S:Aj (C.r γ) xs=Aj (C.r γ) first++cl.args.toList.map (ev σ.s)++Aj (C.r γ) u:=by
  rw[←hxs,Fy,Fy]
  congr 2
  rw[Es,Hg]
  exact EV fun y _=>(A y).symm
 have hfe:ev σ.s fo'=.fn (.func f) (Aj (C.r γ) first) (Aj (C.r γ) u):=by rw[A,hf];simp[ren]
 have hrop:Bg P C.l n o (fun σ'=>∃i,I i∧∃a:Ab→Nat,(∀q,q∉fr→a q=γ q)∧σ'=⟨cX l σ.s (ren (C.r a) (xF i)),CG (C.r a) (s i) σ.H⟩) σ:=by
  unfold Bg
  rw[hopc]
  simp only[hcal,hfe]
  rw[S]at hA
  refine hA.mono fun y W ⟨i,hi,a,N,e2,e3⟩=>?_
  unfold LM B9
  rw[hd]
  cases l with
  |none=>exact⟨i,hi,a,N,by rw[e3];rfl⟩
  |some d=>exact⟨Yf k5,i,hi,a,N,by rw[e2,e3];rfl⟩
 refine Vi (by simp[Region.wanted,hgd]) (Iw hrop) hR fun σ' Y w' hK O=>?_
 obtain⟨i,hi,a,N,rfl⟩:=hK
 have h:=h i hi
 have H:=H i
 have t:=t i
 generalize s i=Ao at h H t O
 generalize xF i=x at h O
 simp only[Yb]at t
 obtain⟨k1,k2⟩:=t
 have hsub:∀q,q∈fr→∃b,(q,b)∈Ao:=fun q g=>by
  obtain⟨p,E,hk⟩:=YT.1 (Yk.1 k2 q g)
  rw[BZ.1 hk];exact⟨p.2,E⟩
 let τ2:St:=Aa (FJ l x (Do fr ss)) (Ao++Cv (Ao.map (·.1)) fr fl hs)
 have D:∀q,As (Ao++Cv (Ao.map (·.1)) fr fl hs) q=if q∈Ao.map (·.1)then As Ao q else As (Cv (Ao.map (·.1)) fr fl hs) q:=fun q=>wS _ _ _
 have hin:∀q,q∈Ao.map (·.1)→∃b,(q,b)∈Ao:=fun q g=>by obtain⟨p,E,rfl⟩:=YU.1 g;exact⟨p.2,E⟩
 have F:∀q b,(q,b)∈Ao→CG (C.r a) Ao σ.H ((C.r a).κ q)=AA (C.r a) q b∧As Ao q=b∧Bk C.outs q=true∧b.live=true:=ic (r:=C.r a) L Ao σ.H k1
 have B:∀q,q∉Ao.map (·.1)→Bk C.outs q=true→CG (C.r a) Ao σ.H ((C.r a).κ q)=σ.H ((C.r a).κ q)∧a q=γ q:=fun q g v=>by
  refine⟨PU _ _ _ fun p E=>L _ _ (F p.1 p.2 E).2.2.1 v fun e=>g (YU.2 ⟨p,E,e⟩),N q fun hf=>?_⟩
  grind
 have K:∀q,Bk C.outs q=true→(σ.H (C.κ q)).g=γ q→(CG (C.r a) Ao σ.H (C.κ q)).g=a q+(As (Ao++Cv (Ao.map (·.1)) fr fl hs) q).g:=fun q v hq0=>by
  rw[D]
  split
  ·rename_i hm
   obtain⟨b,J⟩:=hin q hm
   obtain⟨a1,X,_⟩:=F q b J
   rw[show C.κ q=(C.r a).κ q from rfl,a1,X]
   rfl
  ·rename_i hm
   obtain⟨a1,X⟩:=B q hm v
   rw[show C.κ q=(C.r a).κ q from rfl,a1,X]
   have:(As (Cv (Ao.map (·.1)) fr fl hs) q).g=0:=by
    rcases(Mo (fr:=fr) (fl:=fl) hs (Ao.map (·.1)) q).2 hm with⟨e,_⟩|e
    ·rw[e];exact P4 k4 q
    ·rw[e];rfl
   rw[this]
   exact hq0
 have hG2:RG (C.r a) C.l C.outs [] τ2 ⟨fun j=>ren (C.r a) (τ2.s j),CG (C.r a) Ao σ.H⟩:=by
  refine⟨fun j=>⟨fun _=>rfl,fun hn=>absurd AU hn⟩,fun q g=>?_,fun d=>?_,fun i hi=>?_,fun q g=>?_,fun q g hn=>?_⟩
  ·show CG (C.r a) Ao σ.H ((C.r a).κ q)=AA (C.r a) q (As (Ao++Cv (Ao.map (·.1)) fr fl hs) q)
   replace g:(As (Ao++Cv (Ao.map (·.1)) fr fl hs) q).live=true:=g
   rw[D]at g⊢
   split at g
   ·grind
   ·rename_i hm
    rw[Yj hm]
    rcases(Mo (fr:=fr) (fl:=fl) hs (Ao.map (·.1)) q).2 hm with⟨e,e'⟩|e
    ·rw[e]at g⊢
     have v:=z.k q g
     have t:Bk C.outs q=true:=by
      obtain⟨q1,q2⟩:=q
      simp only at v
      simp only[Bk,Yt,Yb]
      rcases v with rfl|⟨rfl,h2⟩
      ·exact .inl rfl
      ·exact .inr ⟨rfl,Z6 h2⟩
     obtain⟨a1,X⟩:=B q hm t
     rw[a1]
     have J:=z.h q g
     have G:Aj (C.r a) (As hs q).cells=Aj (C.r γ) (As hs q).cells:=by
      rcases e' with e'|e'
      ·rw[Hr (Xg hfl q e'),Hr (Xg hfl q e')]
      ·exact JI (r:=C.r γ) N _ e'
     show σ.H ((C.r γ).κ q)=_
     rw[J]
     simp only[AA]
     rw[G,show(C.r a).γ q=a q from rfl,X]
     rfl
    ·rw[e]at g;cases g
  ·have:=K (1,d) rfl (by
    have:=z.g d
    rw[show((Aa ss hs).H (1,d)).g=0 from P4 k4 _]at this
    rw[hC.own];exact this)
   rw[hC.own]at this
   exact this
  ·exact K (0,i) (by simp only[Bk,Yt,Yb];exact .inr ⟨rfl,Z6 hi⟩) (by
    have:=z.go i hi
    rw[show((Aa ss hs).H (0,i)).g=0 from P4 k4 _]at this
    exact this)
  ·replace g:(As (Ao++Cv (Ao.map (·.1)) fr fl hs) q).live=true:=g
   rw[D]at g
   split at g
   ·rename_i hm
    obtain⟨b,J⟩:=hin q hm
    exact Fa (F q b J).2.2.1
   ·rename_i hm
    rcases(Mo (fr:=fr) (fl:=fl) hs (Ao.map (·.1)) q).2 hm with⟨e,e'⟩|e
    ·rw[e]at g;exact z.k q g
    ·rw[e]at g;cases g
  ·show CG (C.r a) Ao σ.H q=C.H0 q
   rw[PU _ _ _ fun p E e=>?_]
   ·exact z.o q g hn
   ·by_cases Z:p.1.1=1
    ·obtain⟨⟨p1,p2⟩,p3⟩:=p
     simp only at Z
     subst Z
     rw[show(C.r a).κ (1,p2)=(C.l+1,p2)from hC.own p2]at e
     grind
    ·exact hn (by rw[←e];exact WX H p E Z)
 refine h a _ Y w' (hC.G γ a (fun i hi=>N _ fun hm=>?_) hg) hG2 (R.weaken O fun j=>?_)
 ·have:=Yk.1 k3 _ hm
  simp only[YF,F7]at this
  rcases this with h|h
  ·cases h
  ·have:(C.fx.any (Nat.beq i))=true:=YT.2 ⟨i,hi,by simp⟩
   grind
 ·have old:ren (C.r a) (AJ (Do fr ss) j)=σ.s j∨ren (C.r a) (AJ (Do fr ss) j)=.top:=by
   rcases g9 (fr:=fr) ss j with e|⟨e,e'⟩
   ·right;rw[e];simp[ren]
   ·left
    rw[e,hs' j]
    exact gg (r:=C.r γ) N _ e'
  show ren (C.r a) (AJ (FJ l x (Do fr ss)) j)=_∨ren (C.r a) (AJ (FJ l x (Do fr ss)) j)=.top
  cases l with
  |none=>exact old
  |some d=>
   simp only[FJ,AJ,cX,upd]
   cases hj:Nat.beq d j with
   |true=>
    have:=Ya hj
    grind
   |false=>
    have:j≠d:=fun e=>by rw[e]at hj;simp at hj
    grind
theorem wz(D:CxOk C){os:Nat}{fx:List Nat}(F:C.outs=os)(E:C.fx=fx){c:Code}{k:Nat}{ss:List (Nat×AV)}{hs:List (Ab×Blk)}(e:Option Nat)(l:Operand)(j:List Operand)(q:FC c k=some (e,l,j))
  (f:FuncId) (first d xs:List AV) (G:ev (AJ ss) l=.fn (.func f) first d) (t:first++j.map (ev (AJ ss))++d=xs) (ks:List Ab) (m:List (Ab×Blk)) (p:(ks.map fun k=>(k,As hs k))=m)
  (x:AV) (Ao:List (Ab×Blk)) (fr fl:List Ab) (i:(C3 os Ao&&K1 fr Ao&&JW fr fx&&Gq hs&&Kn n e&&ks.all (Bk os))=true) (s:Ei C Ao) (o:H1 (As hs) fl)
  (g:∀r:Ren,r.θ=C.θ→r.H0=C.H0→r.κ=C.κ→r.no=C.no→Gx P C.l r f xs m x Ao fr)
  (h:LO P n C c (k+1) (Aa (FJ e x (Do fr ss)) (Ao++Cv (Ao.map (·.1)) fr fl hs)) Q):LO P n C c k (Aa ss hs) Q:=by
 simp only[Yb]at i
 obtain⟨⟨⟨⟨⟨I,J⟩,K⟩,L⟩,M⟩,N⟩:=i
 exact tA D F E e l j q f first d xs G t ks m p (ι:=Unit) (fun _=>True) (fun _=>x) (fun _=>Ao) fr fl (by simp only[Yb];exact⟨⟨⟨K,L⟩,M⟩,N⟩) (fun _=>by simp only[Yb];exact⟨I,J⟩) (fun _=>s) o
  (fun r w z A B u a b=>(g r w z A B u a b).mono fun y v H=>⟨(),trivial,H⟩) fun _ _=>h
end
def Dl(l:Nat)(ks:List Ab):Ab→Ab
 |(0,i)=>match A6 ks i with|some k=>k|none=>(0,0)
 |(_+1,d)=>(l+1,d)
def FZ(a:List Nat):Ab→Nat
 |(0,i)=>match A6 a i with|some g=>g|none=>0
 |(_+1,_)=>0
def BY(l:Nat)(ks:List Ab)(a:List Nat)(θ:Nat→AV)(H:Hp):Ren:=⟨Dl l ks,FZ a,θ,H,fun k=>k∈ks⟩
def G9(l:Nat)(ks:List Ab)(a:List Nat)(r:Ren):Prop:=r.κ=Dl l ks∧∀i,i<ks.length→r.γ (0,i)=FZ a (0,i)
def Cn(r:Ren):Nat→List Blk→List Blk
 |_,[]=>[]
 |i,b::a=>AA r (0,i) b::Cn r (i+1) a
def C6(H:Hp):List Ab→List Blk→Hp
 |k::ks,b::a=>C6 (updH H k b) ks a
 |_,_=>H
theorem Vs:∀(ks:List Ab) (a:List Blk) (H:Hp) (q:Ab),q∉ks→C6 H ks a q=H q
 |[],a,H,q,h=>by cases a<;>rfl
 |k::ks,[],H,q,h=>rfl
 |k::ks,b::a,H,q,h=>by
  simp only[C6]
  rw[Vs ks a _ q (fun hm=>h (YH _ hm)),Av _ _ (fun e=>h (by rw[e];exact YM ..))]
theorem iM:∀(ks:List Ab) (a:List Blk) (H:Hp),ks.Nodup→∀(j:Nat) (k:Ab) (b:Blk),ks[j]?=some k→a[j]?=some b→C6 H ks a k=b
 |[],a,H,_,j,k,b,h,_=>by simp at h
 |q::ks,[],H,_,_,_,_,_,h=>by simp at h
 |q::ks,c::a,H,e,j,k,b,d,hb=>by
  simp only[C6]
  rw[List.nodup_cons]at e
  cases j with
  |zero=>
   simp only[Y5,Yg]at d hb
   subst d;subst hb
   rw[Vs ks a _ _ e.1,AH]
  |succ j=>
   simp only[Jw]at d hb
   exact iM ks a _ e.2 j k b d hb
theorem iu{r:Ren}:∀(a:List Blk) (i j:Nat),(Cn r i a)[j]?=(a[j]?).map (AA r (0,i+j))
 |[],i,j=>by simp[Cn]
 |b::a,i,0=>by simp[Cn]
 |b::a,i,j+1=>by
  simp only[Cn,Jw,iu a (i+1) j,show i+1+j=i+(j+1)from by omega]
theorem fF{P:Program}{T:Nat→Option TI}{n:Nat}{f:FuncId}{fn:Func}(J:List ResultVar)(c:Code){l:Nat}{xs:List AV}{H:Hp}{g:AV→Hp→Prop}(ks:List Ab)(t:List Nat)(fx:List Nat)(θ:Nat→AV)(ys:List AV)(hs:List (Ab×Blk))(LPost:AV→List Blk→Prop)
  (V:P.funcs[f]?=some fn) (hb:fn.body=some c) (s:(fn.name== "runtime.NumGoroutine")=false) (Z:fn.ntmps=n) (hr:fn.results.toList=J) (hx:xs.length≤n) (S:AX P T)
  (D:∀k∈ks,k.1≤l) (u:ks.Nodup) (W:∀d,As hs (1,d)=Ea) (F:∀k,(As hs k).live=true→k.1=0∧k.2<ks.length)
  (R:∀i k,ks[i]?=some k→(H k).g=FZ t (0,i)+(As hs (0,i)).g∧((As hs (0,i)).live=true→H k=AA (BY l ks t θ H) (0,i) (As hs (0,i))))
  (I:Aj (BY l ks t θ H) ys=xs)
  (h:∀C,CxOk C→C.outs=ks.length→C.fx=fx→C.l=l→C.H0=H→C.θ=θ→C.κ=Dl l ks→C.no=(fun k=>k∈ks)→LW P n C c (Aa (C7 0 ys) hs) (FQ T J ks.length LPost))
  (v:∀y b,LPost y b→b.length=ks.length∧(∀x∈b,x.live=true)∧∀r:Ren,r.κ=Dl l ks→r.θ=θ→r.H0=H→r.no=(fun k=>k∈ks)→(∀i∈fx,r.γ (0,i)=FZ t (0,i))→g (ren r y) (C6 H ks (Cn r 0 b))):Zca P f l xs H g:=by
 let C:Base→Cx:=fun B=>⟨l,B,Dl l ks,θ,H,ks.length,fun k=>k∈ks,fx,fun γ=>∀i∈fx,γ (0,i)=FZ t (0,i)⟩
 have a:∀i,i<ks.length→ks[i]?=some (Dl l ks (0,i)):=fun i hi=>by
  show _=some (match A6 ks i with|some k=>k|none=>(0,0))
  rw[BT,Ye hi]
 have E:∀(i:Nat) (k:Ab),ks[i]?=some k→i<ks.length:=fun i k hi=>by
  grind
 have K:∀B,CxOk (C B):=fun B=>by
  refine⟨fun _=>rfl,fun i hi=>D _ (Yn (a i hi)),fun i j hi Y e=>?_,fun k w=>?_,fun γ γ' he A i hi=>by rw[he i hi];exact A i hi⟩
  ·have m:=a i hi
   have o:=a j Y
   rw[show Dl l ks (0,i)=Dl l ks (0,j)from e]at m
   have Q:ks[i]?=ks[j]?:=m.trans o.symm
   exact(List.getElem?_inj hi u).1 Q
  ·obtain⟨i,hi⟩:=Y2.1 (show k∈ks from w)
   grind
 refine iw J C (γ:=FZ t) (LPost:=LPost) (ys:=ys) (hs:=hs) V hb s Z hr hx S K (fun B=>⟨rfl,rfl,rfl,fun i _=>rfl⟩) (fun B=>I) (fun _=>rfl) W (fun B k w=>?_) (fun B i hi=>?_) (fun B γ y b N A hy L _=>?_) (fun B=>h _ (K B) rfl rfl rfl rfl rfl rfl rfl)
 ·obtain⟨m,o⟩:=F k w
  obtain⟨k1,M⟩:=k
  simp only at m o
  subst m
  exact⟨rfl,o,(R M _ (a M o)).2 w⟩
 ·grind
 ·obtain⟨U,z,v⟩:=v y b hy
  have v:=v ((C B).r γ) rfl rfl rfl rfl fun i hi=>A i hi
  have O:N=C6 H ks (Cn ((C B).r γ) 0 b):=by
   funext q
   by_cases G:q∈ks
   ·obtain⟨i,hi⟩:=Y2.1 G
    have X:=E i q hi
    have p:b[i]?=some b[i]:=Ye (by omega)
    have m:=L.live i _ p (z _ (Yn p))
    have o:Dl l ks (0,i)=q:=by
     grind
    rw[show(C B).κ (0,i)=q from o]at m
    rw[m,iM ks _ H u i q (AA ((C B).r γ) (0,i) b[i]) hi]
    rw[iu,p,YS]
    rfl
   ·rw[Vs ks _ H q G]
    exact L.o q G
  rw[O];exact v
theorem rG{P:Program}{T:Nat→Option TI}{n:Nat}{f:FuncId}{fn:Func}(w:List ResultVar)(c:Code){l:Nat}{xs:List AV}{H:Hp}{a:AV→Hp→Prop}(ks:List Ab)(e:List Nat)(fx:List Nat)(θ:Nat→AV)(ys:List AV)(hs:List (Ab×Blk))(LPost:AV→List Blk→Prop)
  (G:P.funcs[f]?=some fn) (hb:fn.body=some c) (g:(fn.name== "runtime.NumGoroutine")=false) (J:fn.ntmps=n) (K:fn.results.toList=w) (L:xs.length≤n) (E:AX P T)
  (q:∀k∈ks,k.1≤l) (t:ks.Nodup) (p:∀i,i<ks.length→i∈fx) (I:∀d,As hs (1,d)=Ea) (s:∀k,(As hs k).live=true→k.1=0∧k.2<ks.length)
  (D:∀i k,ks[i]?=some k→(H k).g=FZ e (0,i)+(As hs (0,i)).g∧((As hs (0,i)).live=true→H k=AA (BY l ks e θ H) (0,i) (As hs (0,i))))
  (v:Aj (BY l ks e θ H) ys=xs)
  (h:∀C,CxOk C→C.outs=ks.length→C.fx=fx→C.l=l→C.H0=H→C.θ=θ→C.κ=Dl l ks→C.no=(fun k=>k∈ks)→LW P n C c (Aa (C7 0 ys) hs) (FQ T w ks.length LPost))
  (u:∀y b,LPost y b→b.length=ks.length∧(∀x∈b,x.live=true)∧∃Y' bs',(∀r,G9 l ks e r→ren r y=Y')∧(∀r,G9 l ks e r→Cn r 0 b=bs')∧a Y' (C6 H ks bs')):Zca P f l xs H a:=by
 refine fF w c ks e fx θ ys hs LPost G hb g J K L E q t I s D v h fun y b hy=>?_
 obtain⟨m,o,Y',bs',F,B,u⟩:=u y b hy
 refine⟨m,o,fun r z _ _ _ A=>?_⟩
 have j:G9 l ks e r:=⟨z,fun i hi=>A i (p i hi)⟩
 rw[F _ j,B _ j];exact u
theorem r4{P:Program}{T:Nat→Option TI}{n:Nat}{f:FuncId}{fn:Func}(v:List ResultVar)(c:Code){l:Nat}{xs:List AV}{H:Hp}{a:AV→Hp→Prop}(ks:List Ab)(g:List Nat)(fx:List Nat)(θ:Nat→AV)(ys:List AV)(hs:List (Ab×Blk))(Y:AV)(j:List Blk){Y':AV}{bs':List Blk}
  (E:P.funcs[f]?=some fn) (hb:fn.body=some c) (e:(fn.name== "runtime.NumGoroutine")=false) (G:fn.ntmps=n) (J:fn.results.toList=v) (K:xs.length≤n) (B:AX P T)
  (q:∀k∈ks,k.1≤l) (t:ks.Nodup) (p:∀i,i<ks.length→i∈fx) (F:∀d,As hs (1,d)=Ea) (s:∀k,(As hs k).live=true→k.1=0∧k.2<ks.length)
  (A:∀i k,ks[i]?=some k→(H k).g=FZ g (0,i)+(As hs (0,i)).g∧((As hs (0,i)).live=true→H k=AA (BY l ks g θ H) (0,i) (As hs (0,i))))
  (u:Aj (BY l ks g θ H) ys=xs) (m:j.length=ks.length) (o:∀b∈j,b.live=true) (D:∀r,G9 l ks g r→ren r Y=Y') (z:∀r,G9 l ks g r→Cn r 0 j=bs')
  (h:∀C,CxOk C→C.outs=ks.length→C.fx=fx→C.l=l→C.H0=H→C.θ=θ→C.κ=Dl l ks→C.no=(fun k=>k∈ks)→LW P n C c (Aa (C7 0 ys) hs) (FQ T v ks.length (fun y b=>y=Y∧b=j)))
  (I:a Y' (C6 H ks bs')):Zca P f l xs H a:=by
 exact rG v c ks g fx θ ys hs (fun y b=>y=Y∧b=j) E hb e G J K B q t p F s A u h fun y b ⟨w,x⟩=>by subst w;subst x;exact⟨m,o,Y',bs',D,z,I⟩
section
variable {P:Program} {l:Nat} {r:Ren} {f:FuncId} {xs xs':List AV} {hb Ao:List (Ab×Blk)} {x x':AV}
theorem vH(e:Aj r xs=xs')(g:ren r x=x')(h:∀a,(∀p∈hb,(a (r.κ p.1)).g=r.γ p.1+p.2.g∧(p.2.live=true→a (r.κ p.1)=AA r p.1 p.2))→(∀k:Ab,k.1≤l→¬r.no k→a k=r.H0 k)→Zca P f (l+1) xs' a (fun y b=>y=x'∧b=CG r Ao a)):
  Gx P l r f xs hb x Ao []:=fun a hb i=>by
 rw[e]
 exact(h a hb i).mono fun y b ⟨c,d⟩=>⟨r.γ,fun _ _=>rfl,by rw[c,←g],d⟩
end
theorem u3{α:Type}{e:α→List D}{r:Ren}{k:Ab}(xs:List α):EN r k (Ac e xs):=by
 unfold EN
 rw[Hr (D2 e xs)]
 refine Yk.2 fun x a=>?_
 obtain⟨d,_,rfl⟩:=YU.1 a
 rfl
theorem xN{r:Ren}{k:Ab}{vs:List AV}(h:(Aj r vs).all (AV.low (r.κ k).1)=true):EN r k vs:=h
theorem Xe{r:Ren}{k:Ab}(ds:List D):EN r k (ds.map .d):=by
 unfold EN
 rw[Gn]
 refine Yk.2 fun x a=>?_
 obtain⟨d,_,rfl⟩:=YU.1 a
 rfl
theorem fQ{α:Type}(e:α→List D)(xs:List α):Ew (Ac e xs):=fun x a=>by
 obtain⟨d,_,rfl⟩:=YU.1 a;rfl
theorem uA{α:Type}{e:α→List D}{xs:List α}{off cn sz:Nat}{z:List AV}(hl:∀x,(e x).length=sz)(h:off+cn≤xs.length):
  SR (Ac e xs) off cn sz z ((Ac e xs).take (off*sz)++(List.replicate cn z).flatten++(Ac e xs).drop ((off+cn)*sz)):=by
 refine⟨?_,rfl⟩
 rw[Gg hl]
 exact YX _ h
theorem vb{α:Type}{e:α→List D}{xs:List α}{off sz:Nat}{A B:List AV}(hl:∀x,(e x).length=sz)(h:off≤xs.length):∃m,((Ac e xs).take (off*sz)++A++B).take m=Ac e (xs.take off):=by
 refine⟨off*sz,?_⟩
 have a:((Ac e xs).take (off*sz)).length=off*sz:=by
  rw[YO,Gg hl]
  exact Hd (YX _ h)
 rw[El,Ss (by omega),N1 (by omega),VI hl]
def GB(n:Nat):List (Ab×Blk)→Bool
 |[]=>true
 |(k,_)::r=>Nat.beq k.1 0&&Nat.ble (k.2+1) n&&GB n r
theorem Wt{n:Nat}:∀{hs:List (Ab×Blk)},GB n hs=true→∀k,(As hs k).live=true→k.1=0∧k.2<n
 |[],_,k,h=>by simp[As,Ea]at h
 |(q,b)::r,hi,k,h=>by
  simp only[GB,Yb]at hi
  simp only[As]at h
  split at h
  ·rename_i a
   have a:=BZ.1 a
   subst a
   exact⟨Ya hi.1.1,Yf hi.1.2⟩
  ·exact Wt hi.2 k h
theorem VS{n:Nat}:∀{hs:List (Ab×Blk)},GB n hs=true→∀d,As hs (1,d)=Ea
 |[],_,d=>rfl
 |(q,b)::r,hi,d=>by
  simp only[GB,Yb]at hi
  simp only[As]
  split
  ·rename_i a
   have a:=BZ.1 a
   subst a
   have:=Ya hi.1.1
   grind
  ·exact VS hi.2 d
def Ig(H:Hp)(r:Ren)(hs:List (Ab×Blk)):Nat→List Ab→Prop
 |_,[]=>True
 |i,k::ks=>((H k).g=r.γ (0,i)+(As hs (0,i)).g∧((As hs (0,i)).live=true→H k=AA r (0,i) (As hs (0,i))))∧Ig H r hs (i+1) ks
theorem Xk{H:Hp}{r:Ren}{hs:List (Ab×Blk)}:∀{ks:List Ab} {i:Nat},Ig H r hs i ks→∀j k,ks[j]?=some k→(H k).g=r.γ (0,i+j)+(As hs (0,i+j)).g∧((As hs (0,i+j)).live=true→H k=AA r (0,i+j) (As hs (0,i+j)))
 |[],i,_,j,k,h=>by simp at h
 |q::ks,i,h,0,k,a=>by
  simp only[Y5,Yg]at a
  subst a
  exact h.1
 |q::ks,i,h,j+1,k,a=>by
  have:=Xk h.2 j k (by simpa using a)
  grind
def HY(l:Nat):List Ab→Prop
 |[]=>True
 |k::ks=>k.1≤l∧HY l ks
theorem Qg{l:Nat}:∀{ks:List Ab},HY l ks→∀k∈ks,k.1≤l
 |q::ks,h,k,a=>by
  rcases YK.1 a with rfl|a
  ·exact h.1
  ·exact Qg h.2 k a
def HF:Nat→List Nat
 |0=>[]
 |n+1=>HF n++[n]
theorem Qb:∀{n i:Nat},i<n→i∈HF n
 |n+1,i,h=>by
  simp only[HF,Jp,Lr]
  rcases Yz i n with a|a
  ·exact .inl (Qb a)
  grind
theorem rJ{P:Program}{T:Nat→Option TI}{n:Nat}{f:FuncId}{fn:Func}(u:List ResultVar)(c:Code){l:Nat}{xs:List AV}{H:Hp}{a:AV→Hp→Prop}(ks:List Ab)(g:List Nat)(os:Nat)(θ:Nat→AV)(ys:List AV)(hs:List (Ab×Blk))(Y:AV)(e:List Blk){Y':AV}{bs':List Blk}
  (A:P.funcs[f]?=some fn) (hb:fn.body=some c) (d:(fn.name== "runtime.NumGoroutine")=false) (D:fn.ntmps=n) (F:fn.results.toList=u) (G:xs.length≤n) (x:AX P T) (s:ks.length=os)
  (p:HY l ks) (q:ks.Nodup) (j:GB os hs=true) (w:Ig H (BY l ks g θ H) hs 0 ks) (t:Aj (BY l ks g θ H) ys=xs) (m:e.length=os) (o:∀b∈e,b.live=true) (z:∀r,G9 l ks g r→ren r Y=Y') (v:∀r,G9 l ks g r→Cn r 0 e=bs')
  (h:∀C,CxOk C→C.outs=os→C.fx=HF os→C.l=l→C.H0=H→C.θ=θ→C.κ=Dl l ks→C.no=(fun k=>k∈ks)→LW P n C c (Aa (C7 0 ys) hs) (FQ T u os (fun y b=>y=Y∧b=e)))
  (E:a Y' (C6 H ks bs')):Zca P f l xs H a:=by
 subst s
 exact r4 u c ks g (HF ks.length) θ ys hs Y e A hb d D F G x (Qg p) q (fun i hi=>Qb hi) (VS j) (Wt j) (fun i k B=>by have:=Xk w i k B;rw[YS]at this;exact this) t m o z v h E
theorem rW{α:Type}{e e':α→List D}{xs:List α}{j sz:Nat}{x:α}(b:xs[j]?=some x)(hl:∀x,(e x).length=sz)(he:∀x,e x=e' x):Dd (Ac e xs) (j*sz) ((e' x).map .d):=by
 have a:j<xs.length:=by
  grind
 have:=fE (z:=x) a hl he
 grind
theorem ya{P:Program}{l o:Nat}{no b:Ab→Prop}{H j:Hp}{c:AV}{m:List AV}{y:AV}(h:BJ P l no H c m y)(hl:l≤o)(i:∀q:Ab,q.1≤l→¬no q→¬b q)(r:∀q:Ab,q.1≤l→¬no q→j q=H q):BJ P o b j c m y:=by
 obtain⟨f,first,a,e,h⟩:=h
 exact⟨f,first,a,e,fun l' p g s=>h l' p (ET hl g) fun k d n=>by rw[s k (ET d hl) (i k d n),r k d n]⟩
def kB:Code→Operand
 |.cond o _ _=>o
 |_=>.tmp 0
def EB(c:Code)(k:Nat):Option Nat:=match FC c k with|some (d,_,_)=>d|none=>none
def callF(c:Code)(k:Nat):Operand:=match FC c k with|some (_,f,_)=>f|none=>.tmp 0
def FF(c:Code)(k:Nat):List Operand:=match FC c k with|some (_,_,xs)=>xs|none=>[]
theorem g0{P:Program}{n:Nat}{C:Cx}{Q:Exit→St→Prop}(m:CxOk C){os:Nat}{fx:List Nat}(p:C.outs=os)(o:C.fx=fx){c:Code}{k:Nat}{ss:List (Nat×AV)}{hs:List (Ab×Blk)}
  (f:FuncId) (first a xs:List AV) (i:FC c k=some (EB c k,callF c k,FF c k)) (q:ev (AJ ss) (callF c k)=.fn (.func f) first a) (l:first++(FF c k).map (ev (AJ ss))++a=xs) (ks:List Ab) (hb:List (Ab×Blk)) (e:(ks.map fun k=>(k,As hs k))=hb)
  (x:AV) (Ao:List (Ab×Blk)) (fr fl:List Ab) (g:(C3 os Ao&&K1 fr Ao&&JW fr fx&&Gq hs&&Kn n (EB c k)&&ks.all (Bk os))=true) (j:Ei C Ao) (d:H1 (As hs) fl)
  (b:∀r:Ren,r.θ=C.θ→r.H0=C.H0→r.κ=C.κ→r.no=C.no→Gx P C.l r f xs hb x Ao fr)
  (h:LO P n C c (k+1) (Aa (FJ (EB c k) x (Do fr ss)) (Ao++Cv (Ao.map (·.1)) fr fl hs)) Q):LO P n C c k (Aa ss hs) Q:=
 wz m p o _ _ _ i f first a xs q l ks hb e x Ao fr fl g j d b h
end Go.Eng
namespace Go.Eng
open Go
set_option linter.all false
end Go.Eng
namespace Go.Eng
set_option linter.all false
open Go Go.RowKit Go.Shelf
theorem i7{α:Type}{e:α→List D}{xs:List α}{l h:Nat}(q:DY l h xs.length):DY l h (xs.map e).length:=by rw[YD];exact q
theorem xQ{α:Type}{e:α→List D}{xs:List α}{sz:Nat}(he:∀x,(e x).length=sz):∀d,d∈xs.map e→d.length=sz:=fun d h=>by
 grind
theorem i0{α:Type}{e:α→List D}{xs:List α}{sz l h:Nat}(he:∀x,(e x).length=sz):Ln (xs.map e) sz l h (((xs.drop l).take (h-l)).map e):=
 ⟨xQ he,by rw[←List.map_drop,←List.map_take]⟩
theorem sZ{i:Int}{len sz:Nat}(a:0≤i)(h:i<len):KJ i len 0 sz (i.toNat*sz):=⟨a,h,by simp⟩
theorem vC{α:Type}{e:α→List D}{xs:List α}{j sz a:Nat}{z y:α}{vs:List D}(b:j<xs.length)(hl:∀x,(e x).length=sz)(h:a+vs.length≤sz)(he:e y=(e (xs.getD j z)).take a++vs++(e (xs.getD j z)).drop (a+vs.length)):
  Ha (Ac e xs) (j*sz+a) (vs.map .d) (Ac e (xs.set j y)):=by
 have d:(j+1)*sz≤xs.length*sz:=YX _ b
 rw[YN,JA]at d
 refine⟨by rw[YD,Gg hl];omega,?_⟩
 have f:xs.getD j z=xs[j]:=by rw[Yu,Ye b];rfl
 rw[f]at he
 have hs:Ac e xs=Ac e (xs.take j)++((e xs[j]).map .d++Ac e (xs.drop (j+1))):=by
  conv=>lhs;rw[←Hj j xs,In b,PZ,Gc]
 have c:(Ac e (xs.take j)).length=j*sz:=by rw[Gg hl,YO,Hd (by omega)]
 have g:((e xs[j]).map AV.d).length=sz:=by rw[YD,hl]
 rw[hs,List.take_append,N1 (by omega:(Ac e (xs.take j)).length≤j*sz+a),c,show j*sz+a-j*sz=a from by omega,Ss (by omega),
  List.drop_append,aj (by rw[c];omega),c,F4,show j*sz+a+(vs.map AV.d).length-j*sz=a+vs.length from by rw[YD];omega,aw (by omega),
  ao,Yi b,PZ,Gc,he]
 simp only[Jq,List.map_take,List.map_drop,El]
end Go.Eng
namespace Go.Eng
set_option linter.all false
theorem Wb{α:Type}{l:List α}{p:α→Bool}:((match l.findIdx? p with|some k=>(k:Int)|none=>-1)≥0)↔l.any p=true:=by
 rw[YT]
 cases h:l.findIdx? p with
 |none=>
  rw[SJ]at h
  constructor
  ·intro e;exact absurd e (by decide)
  ·rintro⟨x,d,a⟩;rw[h x d]at a;cases a
 |some k=>
  obtain⟨b,c,_⟩:=N2.1 h
  exact⟨fun _=>⟨l[k],Ju b,c⟩,fun _=>Int.natCast_nonneg k⟩
theorem uq{α:Type}{e e':α→List D}{xs:List α}{j sz:Nat}{y:α}(a:j<xs.length)(hl:∀x,(e x).length=sz)(he:∀x,e x=e' x):Ha (Ac e xs) (j*sz) ((e' y).map .d) (Ac e (xs.set j y)):=by
 rw[←he];exact xG a hl
theorem gy{α:Type}{sz:Nat}{e e':α→List D}{y:α}(C:List AV)(hl:∀x,(e x).length=sz)(he:∀x,e x=e' x):EL sz C (.d (.list [e' y])) 1 (Ac e [y]):=by
 rw[u2,he];exact vq C (by rw[←he];exact hl y)
theorem xg{C:List AV}{o n m sz:Nat}{a:List (List D)}(h:n=m)(k:F3 C o m sz a):F3 C o n sz a:=h▸k
theorem wE{α:Type}{e:α→List D}{xs:List α}{n m off sz:Nat}(a:n=m)(h:off≤xs.length)(hl:∀x,(e x).length=sz):n=m∧off*sz≤(Ac e xs).length∧(Ac e xs).drop (off*sz)=Ac e (xs.drop off):=
 ⟨a,by rw[Gg hl];exact YX _ h,Mm hl xs off⟩
theorem wM{α:Type}{e:α→List D}{z:α}{c:List AV}(a:(e z).map .d=c)(m:Nat):(List.replicate m c).flatten=Ac e (List.replicate m z):=by
 subst a
 induction m with
 |zero=>rfl
 |succ m b=>rw[SN,Ij,b,SN,Gc]
end Go.Eng
namespace Go.Eng
set_option linter.all false
open Go Go.RowKit
section
variable {P:Program} {T:Nat→Option TI} {n:Nat} {C:Cx} {τ:St} {Q:Exit→St→Prop}
theorem x7(f:CxOk C){os:Nat}{fx:List Nat}(k:C.outs=os)(i:C.fx=fx){c:Code}(a:AT)(lf:Lf)(q:Ren→(St→Prop)→Prop)
  (m:∀r Φ,AW r os a τ (fun τ _=>Dp fx lf τ Φ)=q r Φ) (h:∀r,r.θ=C.θ→r.H0=C.H0→r.κ=C.κ→r.no=C.no→q r (fun τ'=>LW P n C c τ' Q)):LW P n C c τ Q:=by
 subst k
 subst i
 intro γ σ l j
 have e:=h (C.r γ) rfl rfl rfl rfl
 rw[←m]at e
 obtain⟨y,w,x,g,b,d⟩:=BQ (n:=n) f a e j
 obtain⟨u,z,v,o,p,s,t⟩:=Ge (n:=n) f g l b
 exact Bn.weak (p u v o s) (d.trans t)
end
theorem gU{s:ByteArray}{i:Int}(a:0≤i)(h:i<s.size):HO s i ((s.data.toList.getD i.toNat 0).toNat:Int):=by
 have:=jk (s:=s) (i:=i.toNat) (by omega)
 rwa [Int.toNat_of_nonneg a]at this
end Go.Eng
