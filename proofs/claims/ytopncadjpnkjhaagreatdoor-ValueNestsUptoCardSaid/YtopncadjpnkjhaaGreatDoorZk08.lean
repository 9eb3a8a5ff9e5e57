import Derived.Test.YtopncadjpnkjhaaGreatDoorZk07
import Derived.Shelf.Spec.SlicesGrow
import Derived.Test.YtopncadjpnkjhaaGreatDoorZk00
namespace Go.Eng
structure Raw where
 num:Int
 wire:Int
 bits:Int
 data:ByteArray
deriving Inhabited,DecidableEq
mutual
inductive Val where
 |mk (kind bits:Int) (text:ByteArray) (list:List Val) (pairs:List Pr) (slots:List Slt) (raws:List Raw)
inductive Pr where
 |mk (key val:Val)
inductive Slt where
 |mk (num:Int) (val:Val)
end
inductive Msk where
 |mk (num:Int) (subs:List Msk)
instance:Inhabited Val:=⟨.mk 0 0 .empty [] [] [] []⟩
instance:Inhabited Pr:=⟨.mk default default⟩
instance:Inhabited Slt:=⟨.mk 0 default⟩
instance:Inhabited Msk:=⟨.mk 0 []⟩
def Val.kind:Val→Int|.mk k _ _ _ _ _ _=>k
def Val.bits:Val→Int|.mk _ b _ _ _ _ _=>b
def Val.text:Val→ByteArray|.mk _ _ t _ _ _ _=>t
def Val.list:Val→List Val|.mk _ _ _ l _ _ _=>l
def Val.pairs:Val→List Pr|.mk _ _ _ _ p _ _=>p
def Val.slots:Val→List Slt|.mk _ _ _ _ _ s _=>s
def Val.raws:Val→List Raw|.mk _ _ _ _ _ _ r=>r
def Pr.key:Pr→Val|.mk k _=>k
def Pr.val:Pr→Val|.mk _ v=>v
def Slt.num:Slt→Int|.mk n _=>n
def Slt.val:Slt→Val|.mk _ v=>v
def Msk.num:Msk→Int|.mk n _=>n
def Msk.subs:Msk→List Msk|.mk _ s=>s
def AO(s:ByteArray):List D:=[.str s]
def mN(s:Int):List D:=[.int .i64 s]
def AD(s:Bool):List D:=[.bool s]
def A3(x:Raw):List D:=[.int .i64 x.num,.int .i64 x.wire,.int .u64 x.bits,.str x.data]
mutual
def AC:Val→List D
 |.mk k b t l p s r=>[.int .i64 k,.int .u64 b,.str t,.list (JE l),.list (JI p),.list (Jr s),.list (r.map A3)]
def JE:List Val→List (List D)
 |[]=>[]
 |v::vs=>AC v::JE vs
def Av:Pr→List D
 |.mk k v=>AC k++AC v
def JI:List Pr→List (List D)
 |[]=>[]
 |v::vs=>Av v::JI vs
def Aq:Slt→List D
 |.mk n v=>.int .i64 n::AC v
def Jr:List Slt→List (List D)
 |[]=>[]
 |v::vs=>Aq v::Jr vs
end
mutual
def Mp:Msk→List D
 |.mk n s=>[.int .i64 n,.list (PS s)]
def PS:List Msk→List (List D)
 |[]=>[]
 |v::vs=>Mp v::PS vs
end
theorem qH(l:List Val):JE l=l.map AC:=by induction l with|nil=>rfl|cons v l a=>simp[JE,a]
theorem rO(l:List Pr):JI l=l.map Av:=by induction l with|nil=>rfl|cons v l a=>simp[JI,a]
theorem qf(l:List Slt):Jr l=l.map Aq:=by induction l with|nil=>rfl|cons v l a=>simp[Jr,a]
theorem qe(l:List Msk):PS l=l.map Mp:=by induction l with|nil=>rfl|cons v l a=>simp[PS,a]
def Ai(x:Val):List D:=[.int .i64 x.kind,.int .u64 x.bits,.str x.text,.list (x.list.map AC),.list (x.pairs.map Av),.list (x.slots.map Aq),.list (x.raws.map A3)]
def B6(x:Pr):List D:=[.int .i64 x.key.kind,.int .u64 x.key.bits,.str x.key.text,.list (x.key.list.map AC),.list (x.key.pairs.map Av),.list (x.key.slots.map Aq),.list (x.key.raws.map A3),.int .i64 x.val.kind,.int .u64 x.val.bits,.str x.val.text,.list (x.val.list.map AC),.list (x.val.pairs.map Av),.list (x.val.slots.map Aq),.list (x.val.raws.map A3)]
def Bl(x:Slt):List D:=[.int .i64 x.num,.int .i64 x.val.kind,.int .u64 x.val.bits,.str x.val.text,.list (x.val.list.map AC),.list (x.val.pairs.map Av),.list (x.val.slots.map Aq),.list (x.val.raws.map A3)]
def ba(x:Msk):List D:=[.int .i64 x.num,.list (x.subs.map Mp)]
theorem FW(v:Val):AC v=Ai v:=by
 cases v;simp[AC,Ai,qH,rO,qf,Val.kind,Val.bits,Val.text,Val.list,Val.pairs,Val.slots,Val.raws]
theorem Jl(v:Pr):Av v=B6 v:=by cases v;simp[Av,FW,Ai,B6,Pr.key,Pr.val]
theorem Je(v:Slt):Aq v=Bl v:=by cases v;simp[Aq,FW,Ai,Bl,Slt.num,Slt.val]
theorem w8(v:Msk):Mp v=ba v:=by cases v;simp[Mp,ba,qe,Msk.num,Msk.subs]
structure Typ where
 kind:Int
 name:ByteArray
deriving Inhabited,DecidableEq
def De(x:Typ):List D:=[.int .i64 x.kind,.str x.name]
structure Nt where
 name:ByteArray
 val:Val
deriving Inhabited
def BD(x:Nt):List D:=[.str x.name,.int .i64 x.val.kind,.int .u64 x.val.bits,.str x.val.text,.list (x.val.list.map AC),.list (x.val.pairs.map Av),.list (x.val.slots.map Aq),.list (x.val.raws.map A3)]
structure Fld where
 num:Int
 name:ByteArray
 card:Int
 key:Int
 type:Typ
 union:ByteArray
 hasDefault:Bool
 dflt:Val
 notes:List Nt
deriving Inhabited
def Am(x:Fld):List D:=[.int .i64 x.num,.str x.name,.int .i64 x.card,.int .i64 x.key,.int .i64 x.type.kind,.str x.type.name,.str x.union,.bool x.hasDefault,.int .i64 x.dflt.kind,.int .u64 x.dflt.bits,.str x.dflt.text,.list (x.dflt.list.map AC),.list (x.dflt.pairs.map Av),.list (x.dflt.slots.map Aq),.list (x.dflt.raws.map A3),.list (x.notes.map BD)]
structure Spn where
 lo:Int
 hi:Int
deriving Inhabited,DecidableEq
def BY(x:Spn):List D:=[.int .i64 x.lo,.int .i64 x.hi]
structure By where
 b:UInt8
deriving Inhabited,DecidableEq
def By.v(x:By):Int:=x.b.toNat
def xc(x:By):List D:=[.int .u8 x.v]
structure Msg where
 name:ByteArray
 fields:List Fld
 reserved:List Spn
 gone:List ByteArray
 notes:List Nt
deriving Inhabited
def AG(x:Msg):List D:=[.str x.name,.list (x.fields.map Am),.list (x.reserved.map BY),.list (x.gone.map AO),.list (x.notes.map BD)]
structure Itm where
 name:ByteArray
 num:Int
 notes:List Nt
deriving Inhabited
def Cc(x:Itm):List D:=[.str x.name,.int .i64 x.num,.list (x.notes.map BD)]
structure Enm where
 name:ByteArray
 opn:Bool
 items:List Itm
 reserved:List Spn
 notes:List Nt
deriving Inhabited
def Bs(x:Enm):List D:=[.str x.name,.bool x.opn,.list (x.items.map Cc),.list (x.reserved.map BY),.list (x.notes.map BD)]
structure Mth where
 name:ByteArray
 inn:ByteArray
 out:ByteArray
 shape:Int
 notes:List Nt
deriving Inhabited
def Fk(x:Mth):List D:=[.str x.name,.str x.inn,.str x.out,.int .i64 x.shape,.list (x.notes.map BD)]
structure Svc where
 name:ByteArray
 methods:List Mth
 notes:List Nt
deriving Inhabited
def CA(x:Svc):List D:=[.str x.name,.list (x.methods.map Fk),.list (x.notes.map BD)]
structure Scm where
 messages:List Msg
 enums:List Enm
 services:List Svc
deriving Inhabited
def An(x:Scm):List D:=[.list (x.messages.map AG),.list (x.enums.map Bs),.list (x.services.map CA)]
structure Fil where
 name:ByteArray
 space:ByteArray
 imports:List ByteArray
 messages:List Msg
 enums:List Enm
 services:List Svc
deriving Inhabited
def xa(x:Fil):List D:=[.str x.name,.str x.space,.list (x.imports.map AO),.list (x.messages.map AG),.list (x.enums.map Bs),.list (x.services.map CA)]
structure Prb where
 dfn:ByteArray
 num:Int
 err:Int
deriving Inhabited,DecidableEq
def Ae(x:Prb):List D:=[.str x.dfn,.int .i64 x.num,.int .i64 x.err]
structure Stp where
 num:Int
 pos:Int
 hasKey:Bool
 key:Val
deriving Inhabited
structure Edt where
 path:List Stp
 kind:Int
 val:Val
deriving Inhabited
class Mv (V:Type) where
 q:Bool
 e:V→List D
 z:V
def CY{V:Type}[Mv V](p:ByteArray×V):List D:=.str p.1::Mv.e p.2
instance:Mv (List Int):=⟨false,fun x=>[.list (x.map mN)],[]⟩
instance (V:Type) [Mv V]:Mv (List (ByteArray×V)):=⟨false,fun m=>[.map (Mv.q V) (m.map CY)],[]⟩
structure Web where
 messages:List (ByteArray×Msg)
 enums:List (ByteArray×Bool)
deriving Inhabited
structure Lst where
 dfn:ByteArray
 l:List Prb
deriving Inhabited
structure Acs where
 m:Msg
 s:Scm
deriving Inhabited
structure Nod where
 kind:Int
 bits:Int
 text:ByteArray
 list:Int
 pairs:Int
 slots:Int
 raws:Int
deriving Inhabited,DecidableEq
def od(x:Nod):List D:=[.int .i64 x.kind,.int .u64 x.bits,.str x.text,.int .i64 x.list,.int .i64 x.pairs,.int .i64 x.slots,.int .i64 x.raws]
structure Lnk where
 files:List Fil
 f:Fil
 known:List ByteArray
 messages:List ByteArray
 enums:List Enm
deriving Inhabited
def nJ:Raw:=⟨0,0,0,⟨#[]⟩⟩
def Kd:Val:=.mk 0 0 ⟨#[]⟩ [] [] [] []
def w7:Pr:=.mk Kd Kd
def nr:Slt:=.mk 0 Kd
def xb:Msk:=.mk 0 []
def nF:Typ:=⟨0,⟨#[]⟩⟩
def w6:Nt:=⟨⟨#[]⟩,Kd⟩
def nd:Fld:=⟨0,⟨#[]⟩,0,0,nF,⟨#[]⟩,false,Kd,[]⟩
def mU:Spn:=⟨0,0⟩
def xd:By:=⟨0⟩
def nY:Msg:=⟨⟨#[]⟩,[],[],[],[]⟩
def n2:Itm:=⟨⟨#[]⟩,0,[]⟩
def nW:Enm:=⟨⟨#[]⟩,false,[],[],[]⟩
def nv:Mth:=⟨⟨#[]⟩,⟨#[]⟩,⟨#[]⟩,0,[]⟩
def ny:Svc:=⟨⟨#[]⟩,[],[]⟩
def w9:Fil:=⟨⟨#[]⟩,⟨#[]⟩,[],[],[],[]⟩
def oe:Prb:=⟨⟨#[]⟩,0,0⟩
end Go.Eng
namespace Go.Eng
set_option linter.all false
open Go Go.RowKit
def Gs:List Nat→Code→Code
 |[],c=>c
 |0::p,.seq a _=>Gs p a
 |_::p,.seq _ b=>Gs p b
 |0::p,.cond _ a _=>Gs p a
 |_::p,.cond _ _ b=>Gs p b
 |_::p,.block _ c=>Gs p c
 |_::p,.loop c=>Gs p c
 |_::p,.scope c=>Gs p c
 |_,c=>c
def As(f:Func):Code:=f.body.getD .skip
def Ac{α:Type}(e:α→List D)(xs:List α):List AV:=((xs.map e).flatten).map .d
theorem DT{α:Type}(e:α→List D)(xs:List α):F1 (Ac e xs):=fun x a=>by
 obtain⟨d,_,rfl⟩:=YQ.1 a;rfl
theorem FR{α:Type}{e:α→List D}{sz:Nat}(he:∀x,(e x).length=sz)(xs:List α):(Ac e xs).length=xs.length*sz:=by
 unfold Ac
 induction xs with
 |nil=>simp
 |cons x xs a=>simp only[Yz,Y1,HF,Yq,he,Ew,YL]at a⊢;omega
theorem O6{α:Type}(e:α→List D)(xs ys:List α):Ac e (xs++ys)=Ac e xs++Ac e ys:=by simp[Ac]
section
variable {P:Program} {n:Nat} {C:Cx} {τ:St} {Q:Exit→St→Prop}
theorem qk{c:Code}(id:Nat)(x:Code)(b:c=.block id x)(h:LW P n C x τ (fun e τ'=>match e with|.exit i=>(match Nat.beq i id with|true=>Q .normal τ'|false=>Q (.exit i) τ')|e=>Q e τ')):LW P n C c τ Q:=b▸rG (h.mono fun e τ' a=>by
 cases e with
 |exit i=>
  simp only at a⊢
  split at a
  ·rename_i he;rw[Yj (Ya he)];exact a
  ·rename_i he;rw[Yi (by rintro rfl;simp at he)];exact a
 |_=>exact a)
end
theorem p8{P:Program}{T:Nat→Option TI}{n:Nat}{f:FuncId}{fn:Func}(e:List ResultVar)(c:Code){l:Nat}{xs:List AV}{H:Hp}{a:AV→Hp→Prop}(θ:Nat→AV)(ys:List AV)
  (j:P.funcs[f]?=some fn) (hb:fn.body=some c) (b:(fn.name== "runtime.NumGoroutine")=false) (o:fn.ntmps=n) (r:fn.results.toList=e) (s:xs.length≤n) (g:AS P T)
  (d:Af ⟨fun k=>(l+1,k.2),fun _=>0,θ,H,fun _=>False⟩ ys=xs) (h:∀B:Base,LW P n (QH l θ H B) c (Ab (CN 0 ys) []) (FQ T e 0 (fun y _=>a y H))):ZbW P f l xs H a:=
 eq e (QH l θ H) (γ:=fun _=>0) (LPost:=fun y _=>a y H) j hb b o r s g (fun B=>dA l B θ H) (fun B=>⟨rfl,rfl,rfl,trivial⟩) (fun B=>d) (fun _=>rfl) (fun _=>rfl) (fun B k m=>by simp[At,D0]at m) (fun B i hi=>absurd hi (IR _))
  (fun B γ y u t _ q p hy=>by rw[hy rfl,qN p];exact q) h
theorem tv{α:Type}(e:α→List D)(xs:List α):Be ((xs.map e).length:Nat) xs.length:=by simp[Be]
theorem fi{α:Type}{e e':α→List D}{xs:List α}{i:Nat}{x:α}(a:xs[i]?=some x)(he:∀x,e x=e' x):G7 (xs.map e) (i:Nat) (e' x):=⟨by omega,by simp[a,he]⟩
theorem uE{α:Type}{e e':α→List D}{xs:List α}{i:Nat}{z:α}(hi:i<xs.length)(he:∀x,e x=e' x):G7 (xs.map e) (i:Nat) (e' (xs.getD i z)):=by
 refine fi ?_ he
 grind
theorem gq{a r:Int}(h:a=r)(b: -9223372036854775808≤r)(c:r<9223372036854775808):BW .i64 a r:=by
 subst h;exact IntWalk.i64_in _ ⟨b,by omega⟩
theorem lW{i len sz:Nat}(h:i<len):Kc (i:Nat) len 0 sz (i*sz):=⟨by omega,by omega,by simp⟩
theorem rT{sz:Nat}{e:List D}(C:List AV)(he:e.length=sz):El sz C (.d (.list [e])) 1 (e.map .d):=by
 refine⟨Ym.2 fun x a=>?_,fun q b=>?_,rfl,by simp⟩
 ·obtain⟨d,_,rfl⟩:=YQ.1 a;rfl
 grind
theorem UD{α:Type}{sz:Nat}{e:α→List D}(C:List AV)(xs:List α)(he:∀x,(e x).length=sz):El sz C (.d (.list (xs.map e))) xs.length (Ac e xs):=by
 refine⟨Ym.2 fun x a=>?_,fun q b=>?_,by simp,rfl⟩
 ·obtain⟨d,_,rfl⟩:=YQ.1 a;rfl
 grind
theorem qS{α:Type}{sz byt:Nat}{e:α→List D}(xs ys:List α){a:Nat}(he:∀x,(e x).length=sz)(b:xs.length+ys.length=a)(hb:a*byt≤140737488355328):
  JL (Ac e xs) 0 xs.length ys.length sz byt (Ac e ys) (Ac e (xs++ys)) a:=
 ⟨by rw[FR he,YH],by rw[KZ,GF,O6],b,hb⟩
theorem r7{α:Type}(e:α→List D)(x:α):Ac e [x]=(e x).map .d:=by simp[Ac]
theorem Vq{α:Type}{sz:Nat}{e:α→List D}(xs:List α)(b:sz≠0)(he:∀x,(e x).length=sz):FI (Ac e xs) 0 xs.length sz (xs.map e):=
 ⟨by simp,b,fun q a=>by obtain⟨x,_,rfl⟩:=YQ.1 a;exact he x,by rw[FR he];simp,by rw[KZ,GF,←FR he xs,Rr];rfl⟩
theorem dX{α:Type}{e e':α→List D}{xs:List α}{i:Int}{z:α}(a:0≤i)(hi:i<xs.length)(he:∀x,e x=e' x):G7 (xs.map e) i (e' (xs.getD i.toNat z)):=by
 have h:=uE (e:=e) (e':=e') (xs:=xs) (i:=i.toNat) (z:=z) (by omega) he
 grind
theorem lQ(s:ByteArray):s.data.toList.length=s.size:=by simp
theorem ud{s:ByteArray}{i:Nat}{x:UInt8}(h:s.data.toList[i]?=some x):G1 s (i:Nat) (x.toNat:Nat):=⟨by omega,x,by simpa using h,rfl⟩
theorem fs{s:ByteArray}{i:Nat}(h:i<s.size):G1 s (i:Nat) ((s.data.toList.getD i 0).toNat:Nat):=by
 refine ud ?_
 rw[Yw,Yc (by rw[lQ];exact h)];rfl
theorem UF{α:Type}{sz byt c:Nat}{e:α→List D}{news:List AV}(xs ys:List α)(he:∀x,(e x).length=sz)(a:ys.length=c)(b:news=Ac e ys)(hb:(xs.length+ys.length)*byt≤140737488355328):
  JL (Ac e xs) 0 xs.length c sz byt news (Ac e (xs++ys)) (xs++ys).length:=by
 subst a;subst b
 exact qS xs ys he (by rw[Yq]) (by rw[Yq];exact hb)
section
variable {P:Program} {l:Nat} {r:Ren} {f:FuncId} {xs xs':List AV} {hb:List (Aa×Blk)} {x x':AV}
def BA(P:Program)(l:Nat)(no:Aa→Prop)(H:Hp)(c:AV)(e:List AV)(y:AV):Prop:=
 ∃f first a,c=.fn (.func f) first a∧∀l' b,l≤l'→(∀k:Aa,k.1≤l→¬no k→b k=H k)→ZbW P f l' (first++e++a) b (fun g d=>g=y∧d=b)
theorem rl{i:Nat}{c:AV}(j:r.θ i=c)(h:BA P l r.no r.H0 c xs' x')(d:Af r xs=xs')(e:ren r x=x'):Jx P l r i xs hb x:=by
 obtain⟨f,first,a,rfl,h⟩:=h
 exact⟨f,first,a,j,fun b _ g=>by rw[d,e];exact h (l+1) b (Nat.le_succ l) g⟩
theorem qZ{H:Hp}{no:Aa→Prop}{c:List AV}{y:AV}(h:∀l' a,ZbW P f l' c a (fun d b=>d=y∧b=a)):BA P l no H (.fn (.func f) [] []) c y:=
 ⟨f,[],[],rfl,fun l' a _ _=>by simpa using h l' a⟩
end
section
variable {P:Program} {T:Nat→Option TI} {n:Nat} {C:Cx} {τ:St} {Q:Exit→St→Prop}
theorem uk(g:CxOk C)(k:AS P T)(hm:P.follows .mixedOrders=true){os:Nat}{fx:List Nat}(d:C.outs=os)(i:C.fx=fx){c:Code}(a:AT)(lf e:Lf)(f:List ResultVar){b:AV→List Blk→Prop}(q:Ren→(Exit→St→Prop)→(AV→List Blk→Prop)→Prop)
  (l:∀r Q b,B2 P T C.l n os r c a τ (KB T f os fx r b lf e Q)=q r Q b) (j:∀τ,FQ T f os b .ret τ→Q .ret τ) (h:∀r,r.θ=C.θ→r.H0=C.H0→r.κ=C.κ→r.no=C.no→q r Q b):LW P n C c τ Q:=
 uZ g k hm a lf e (by rw[d];exact j) (fun γ=>by rw[d,i,l];exact h _ rfl rfl rfl rfl)
theorem sS(e:CxOk C)(g:AS P T)(hm:P.follows .mixedOrders=true){os:Nat}(f:C.outs=os){c:Code}(a:AT)(d:List ResultVar){b:AV→List Blk→Prop}(q:Ren→(AV→List Blk→Prop)→Prop)
  (i:∀r b,B2 P T C.l n os r c a τ (KF T d os b)=q r b) (h:∀r,r.θ=C.θ→r.H0=C.H0→r.κ=C.κ→r.no=C.no→q r b):LW P n C c τ (FQ T d os b):=by
 subst f
 exact vr e g hm a (fun γ=>by rw[i];exact h _ rfl rfl rfl rfl)
mutual
theorem rZ{H:Hp}:∀(x:AV) {a:AT} {K c:AV→AT→Prop},(∀y a,K y a→c y a)→frz H x a K→frz H x a c
 |.d x,a,K,c,b,h=>b _ _ h
 |.e0,a,K,c,b,h=>b _ _ h
 |.agg xs,a,K,c,b,h=>dj xs (fun ys a h=>b _ _ h) h
 |.ref k g off m,a,K,c,b,h=>by
  unfold frz at h⊢
  grind
 |.top,a,K,c,b,h=>by simp only[frz]at h
 |.p _,a,K,c,b,h=>by simp only[frz]at h
 |.ptr _ _ _,a,K,c,b,h=>by simp only[frz]at h
 |.mp k g,a,K,c,b,h=>by
  unfold frz at h⊢
  grind
 |.iptr _ _,a,K,c,b,h=>by simp only[frz]at h
 |.ifc _ _ _,a,K,c,b,h=>b _ _ h
 |.fn _ _ _,a,K,c,b,h=>by simp only[frz]at h
 |.tup _,a,K,c,b,h=>by simp only[frz]at h
theorem dj{H:Hp}:∀(xs:List AV) {a:AT} {K b:List AV→AT→Prop},(∀y a,K y a→b y a)→Hg H xs a K→Hg H xs a b
 |[],a,K,b,c,h=>c _ _ h
 |x::xs,a,K,b,c,h=>by
  simp only[Hg]at h⊢
  exact rZ x (fun y a h=>dj xs (fun ys a h=>c _ _ h) h) h
end
end
theorem FS{α:Type}(e:α→List D)(x:α)(xs:List α):Ac e (x::xs)=(e x).map .d++Ac e xs:=by simp[Ac]
theorem Lp{α:Type}{e:α→List D}{sz:Nat}(hl:∀x,(e x).length=sz):∀(xs:List α) (j:Nat),(Ac e xs).drop (j*sz)=Ac e (xs.drop j)
 |[],j=>by simp[Ac]
 |x::xs,0=>by simp
 |x::xs,j+1=>by
  have a:((e x).map AV.d).length=sz:=by rw[Yz,hl]
  rw[FS,YL,IX,KY,←KW,List.drop_left' a,Lp hl xs j]
  rfl
theorem UK{α:Type}{e:α→List D}{sz:Nat}(hl:∀x,(e x).length=sz):∀(xs:List α) (j:Nat),(Ac e xs).take (j*sz)=Ac e (xs.take j)
 |[],j=>by simp[Ac]
 |x::xs,0=>by simp[Ac]
 |x::xs,j+1=>by
  have a:((e x).map AV.d).length=sz:=by rw[Yz,hl]
  rw[FS,List.take_succ_cons,FS,YL,IX,KY,List.take_append,a,Nat.add_sub_cancel_left,UK hl xs j,M6 (by omega)]
theorem fb{α:Type}{xs:List α}{j:Nat}{z:α}(a:j<xs.length):xs.drop j=xs.getD j z::xs.drop (j+1):=by
 rw[HK a,Yw,Yc a];rfl
theorem cF{α:Type}{e e':α→List D}{xs:List α}{j sz:Nat}{z:α}(a:j<xs.length)(hl:∀x,(e x).length=sz)(he:∀x,e x=e' x):C2 (Ac e xs) (j*sz) ((e' (xs.getD j z)).map .d):=by
 unfold C2
 rw[Lp hl,fb (z:=z) a,FS,he,List.take_left]
theorem oN{α:Type}{e e':α→List D}{xs:List α}{j sz o:Nat}{z:α}{c:List AV}(b:j<xs.length)(hl:∀x,(e x).length=sz)(he:∀x,e x=e' x)
  (a:(((e' (xs.getD j z)).map .d).drop o).take c.length=c) (f:o+c.length≤sz):C2 (Ac e xs) (j*sz+o) c:=by
 unfold C2
 have d:((e' (xs.getD j z)).map AV.d).length=sz:=by rw[Yz,←he,hl]
 rw[←KW,Lp hl,fb (z:=z) b,FS,he,X5 (by omega),Rj (by rw[EZ];omega),a]
theorem um{α:Type}{e:α→List D}{xs:List α}{j sz:Nat}{y:α}(b:j<xs.length)(hl:∀x,(e x).length=sz):GD (Ac e xs) (j*sz) ((e y).map .d) (Ac e (xs.set j y)):=by
 have a:((e y).map AV.d).length=sz:=by rw[Yz,hl]
 have c:(j+1)*sz≤xs.length*sz:=YU _ b
 rw[YL,IX]at c
 refine⟨by rw[a,FR hl];omega,?_⟩
 rw[a,UK hl,show j*sz+sz=(j+1)*sz from by rw[YL,IX],Lp hl,X3,Yj b,O6,FS,Y8]
def QR:D→Option Value
 |.int k n=>some (.int k n)
 |.bool b=>some (.bool b)
 |.str s=>some (.string s)
 |.list _=>none
 |.map _ _=>none
theorem vA{w:World}{S:Nat→Prop}{d:D}{u v:Value}(h:QR d=some v)(a:RepD w S d u):u=v:=by
 cases a<;>simp only[QR,Yf]at h<;>first|exact h|cases h
theorem uz{w:World}{S:Nat→Prop}{H:Hp}{m:Mu}{l:Nat}{ds:List D}{V:List Value}{vs:Array Value}(h:ds.map QR=V.map some)(f:HX w S H m l (ds.map .d) vs):vs=V.toArray:=by
 have hl:ds.length=V.length:=by simpa using congrArg List.length h
 apply Cq
 apply List.ext_getElem?
 intro i
 obtain⟨b,e⟩:=f
 have b:ds.length=vs.size:=by simpa using b
 rcases Yt i ds.length with hi|hi
 ·have c:vs[i]?=some vs[i]:=Yk (by omega)
  have j:=e i (.d ds[i]) vs[i] (by simp[Yc hi]) c
  have a:=congrArg (fun l=>l[i]?) h
  simp only[YE,Yc hi,Yc (show i<V.length by omega),YT,Yf]at a
  rw[Yr,c,Yc (show i<V.length by omega)]
  cases j with|d _ _ g=>rw[vA a g]
 grind
def Ct(r:Ren):List (Aa×Blk)→Hp→Hp
 |[],H=>H
 |(k,b)::a,H=>Ct r a (updH H (r.κ k) (Ax r k b))
def F4(P:Program)(l:Nat)(r:Ren)(f:FuncId)(xs:List AV)(d:List (Aa×Blk))(x:AV)(Al:List (Aa×Blk))(fr:List Aa):Prop:=
 ∀a,(∀p∈d,(a (r.κ p.1)).g=r.γ p.1+p.2.g∧(p.2.live=true→a (r.κ p.1)=Ax r p.1 p.2))→(∀k:Aa,k.1≤l→¬r.no k→a k=r.H0 k)→
  ZbW P f (l+1) (Af r xs) a (fun y b=>∃c:Aa→Nat,(∀k,k∉fr→c k=r.γ k)∧y=ren ⟨r.κ,c,r.θ,r.H0,r.no⟩ x∧b=Ct ⟨r.κ,c,r.θ,r.H0,r.no⟩ Al a)
mutual
def Fe(fr:List Aa):AV→Bool
 |.ref k _ _ _=>fr.any (Ba k)
 |.ptr k _ _=>fr.any (Ba k)
 |.mp k _=>fr.any (Ba k)
 |.fn _ xs ys=>FU fr xs||FU fr ys
 |.agg xs=>FU fr xs
 |.tup xs=>FU fr xs
 |.top=>false
 |.d _=>false
 |.e0=>false
 |.p _=>false
 |.iptr _ _=>false
 |.ifc _ _ _=>false
def FU(fr:List Aa):List AV→Bool
 |[]=>false
 |x::xs=>Fe fr x||FU fr xs
end
def Db(fr:List Aa):List (Nat×AV)→List (Nat×AV)
 |[]=>[]
 |(j,x)::r=>(j,match Fe fr x with|true=>.top|false=>x)::Db fr r
def Ch(ks fr fl:List Aa):List (Aa×Blk)→List (Aa×Blk)
 |[]=>[]
 |(k,b)::r=>match ks.any (Ba k),fl.any (Ba k)||!FU fr b.cells with
  |false,true=>(k,b)::Ch ks fr fl r
  |_,_=>Ch (k::ks) fr fl r
def Fv:Option Nat→AV→List (Nat×AV)→List (Nat×AV)
 |some d,x,r=>(d,x)::r
 |none,_,r=>r
def Bb(os:Nat)(k:Aa):Bool:=Nat.beq k.1 1||(Nat.beq k.1 0&&Nat.ble (k.2+1) os)
def CU(os:Nat):List (Aa×Blk)→Bool
 |[]=>true
 |(k,b)::r=>Bb os k&&b.live&&!(r.any fun p=>Ba k p.1)&&CU os r
mutual
theorem da{r:Ren}{b:Aa→Nat}{fr:List Aa}(a:∀k,k∉fr→b k=r.γ k):∀(x:AV),Fe fr x=false→ren ⟨r.κ,b,r.θ,r.H0,r.no⟩ x=ren r x
 |.ref k g off n,h=>by simp only[Fe]at h;simp only[ren];rw[a k (O9 h)]
 |.ptr k g off,h=>by simp only[Fe]at h;simp only[ren];rw[a k (O9 h)]
 |.mp k g,h=>by simp only[Fe]at h;simp only[ren];rw[a k (O9 h)]
 |.fn f xs ys,h=>by
  simp only[Fe,IN]at h
  have c:=I4 a xs h.1
  have d:=I4 a ys h.2
  cases f<;>simp only[ren,c,d]
 |.agg xs,h=>by simp only[Fe]at h;simp only[ren,I4 a xs h]
 |.tup xs,h=>by simp only[Fe]at h;simp only[ren,I4 a xs h]
 |.top,_=>by simp[ren]
 |.d _,_=>by simp[ren]
 |.e0,_=>by simp[ren]
 |.p _,_=>by simp[ren]
 |.iptr _ _,_=>by simp[ren]
 |.ifc _ _ _,_=>by simp[ren]
theorem I4{r:Ren}{b:Aa→Nat}{fr:List Aa}(a:∀k,k∉fr→b k=r.γ k):∀(xs:List AV),FU fr xs=false→Af ⟨r.κ,b,r.θ,r.H0,r.no⟩ xs=Af r xs
 |[],_=>by simp[Af]
 |x::xs,h=>by
  simp only[FU,IN]at h
  simp only[Af,da a x h.1,I4 a xs h.2]
theorem O9{k:Aa}{fr:List Aa}(h:fr.any (Ba k)=false):k∉fr:=fun hm=>by
 have:fr.any (Ba k)=true:=YG.2 ⟨k,hm,BR.2 rfl⟩
 grind
end
def Bx:Code→Array Oper
 |.region _ ops _=>ops
 |_=>#[]
def iS:Code→Bool
 |.region _ _ false=>true
 |_=>false
def Fj{α:Type}:Nat→List α→List α
 |0,l=>l
 |_+1,[]=>[]
 |n+1,_::l=>Fj n l
def F3{α:Type}:Nat→List α→List α
 |0,_=>[]
 |_+1,[]=>[]
 |n+1,x::l=>x::F3 n l
theorem UN{α:Type}:∀(n:Nat) (l:List α),Fj n l=l.drop n
 |0,l=>rfl
 |n+1,[]=>rfl
 |n+1,x::l=>UN n l
theorem OT{α:Type}:∀(n:Nat) (l:List α),F3 n l=l.take n
 |0,l=>rfl
 |n+1,[]=>rfl
 |n+1,x::l=>by rw[F3,OT n l];rfl
def LO(P:Program)(n:Nat)(C:Cx)(c:Code)(k:Nat)(τ:St)(Q:Exit→St→Prop):Prop:=
 ∀γ σ a w,C.G γ→RG (C.r γ) C.l C.outs [] τ σ→R C.l n C.B σ a w→wpList P (Bx c) (fun e d w'=>∃b,Is n C (Q e) b∧R C.l n C.B b d w') ((Bx c).toList.drop k) a w
def Fc(c:Code)(k:Nat):Option (Option Nat×Operand×List Operand):=
 match A2 (Bx c).toList k with
 |some o=>(match o.guard,o.op with
  |none,.call cl=>(match cl.callee with|.value f=>some (o.dst,f,cl.args.toList)|_=>none)
  |_,_=>none)
 |none=>none
def D6(C:Cx):List (Aa×Blk)→Prop
 |[]=>True
 |(k,_)::r=>match Nat.beq k.1 1 with|true=>D6 C r|false=>C.no (C.κ k)∧D6 C r
def Hn(H:Hp):List Aa→Prop
 |[]=>True
 |k::r=>F1 (H k).cells∧Hn H r
def JX(fr:List Aa)(Al:List (Aa×Blk)):Bool:=fr.all fun k=>Al.any fun p=>Ba k p.1
def Jn(fr:List Aa)(fx:List Nat):Bool:=fr.all fun k=>!(Nat.beq k.1 0&&fx.any (Nat.beq k.2))
def F2:List (Aa×Blk)→Bool
 |[]=>true
 |(_,b)::r=>Nat.beq b.g 0&&F2 r
def Z5:Option Nat→(Nat→AV)→AV→Nat→AV
 |some d,s,v=>upd s d v
 |none,s,_=>s
def Jv(n:Nat):Option Nat→Bool
 |some d=>Nat.ble (d+1) n
 |none=>true
section
variable {P:Program} {T:Nat→Option TI} {n:Nat} {C:Cx} {τ:St} {Q:Exit→St→Prop}
theorem pW{c:Code}(b:iS c=true)(h:LO P n C c 0 τ Q):LW P n C c τ Q:=by
 cases c with
 |region id ops d=>
  cases d with
  |true=>cases b
  |false=>
   obtain⟨i,rfl⟩:∃l:List Oper,ops=l.toArray:=⟨ops.toList,by simp⟩
   intro γ σ g e a w f
   have:=h γ σ a w g e f
   simp only[Bx,GF]at this
   exact wp_region_lit this
 |_=>cases b
theorem ws(d:CxOk C)(A:AS P T){os:Nat}{fx:List Nat}(y:C.outs=os)(v:C.fx=fx){c:Code}{k:Nat}(m:Nat)(a:AT)(lf:Lf)(q:Ren→(St→Prop)→Prop)
  (E:∀r Φ,AR r os a τ (fun τ a=>Et P T C.l n r ((Bx c).toList.map (·.dst)) (F3 m (Fj k (Bx c).toList)) [] a (fun τ' env f=>AR r os f (CT env τ') (fun τ _=>Dc fx lf τ Φ)) τ)=q r Φ)
  (h:∀r,r.θ=C.θ→r.H0=C.H0→r.κ=C.κ→r.no=C.no→q r (fun τ'=>LO P n C c (k+m) τ' Q)):LO P n C c k τ Q:=by
 subst y
 subst v
 intro γ σ g w D x z
 have o:=h (C.r γ) rfl rfl rfl rfl
 rw[←E]at o
 obtain⟨R,p,N,u,i,j⟩:=BK (n:=n) d a o x
 have e:(Bx c).toList.drop k=F3 m (Fj k (Bx c).toList)++(Bx c).toList.drop (k+m):=by
  rw[OT,UN,←KW,GI]
 rw[e]
 refine I6 (d.ren γ) A (B:=C.B) _ (fun τ' l f U b w' J K L=>?_) _ [] p R N g w u i (j _ _ z)
 obtain⟨V,s,t⟩:=Lm (n:=n) K
 obtain⟨X,S,W,f1,f2,f3⟩:=BK (n:=n) d f J s
 obtain⟨M,Y,O,F,G,H,I⟩:=FO (n:=n) d f1 D f2
 exact G M O b w' F H (I _ _ (f3 _ _ (t _ _ L)))
theorem vq(b:CxOk C)(A:AS P T){os:Nat}{fx:List Nat}(y:C.outs=os)(v:C.fx=fx){c:Code}{k:Nat}(a:AT)(lf:Lf)(q:Ren→(Exit→St→Prop)→Prop)
  (E:∀r Φ,AR r os a τ (fun τ a=>Et P T C.l n r ((Bx c).toList.map (·.dst)) (Fj k (Bx c).toList) [] a (fun τ' env d=>AR r os d (CT env τ') (fun τ _=>Dc fx lf τ (Φ .normal))) τ)=q r Φ)
  (h:∀r,r.θ=C.θ→r.H0=C.H0→r.κ=C.κ→r.no=C.no→q r Q):LO P n C c k τ Q:=by
 subst y
 subst v
 intro γ σ f w D x z
 have m:=h (C.r γ) rfl rfl rfl rfl
 rw[←E]at m
 obtain⟨O,p,N,u,g,i⟩:=BK (n:=n) b a m x
 have e:(Bx c).toList.drop k=Fj k (Bx c).toList++[]:=by rw[UN,Nf]
 rw[e]
 refine I6 (b.ren γ) A (B:=C.B) _ (fun τ' l d U j w' J K L=>?_) _ [] p O N f w u g (i _ _ z)
 obtain⟨V,s,t⟩:=Lm (n:=n) K
 obtain⟨X,S,W,f1,f2,f3⟩:=BK (n:=n) b d J s
 obtain⟨M,R,o,F,G,H,I⟩:=FO (n:=n) b f1 D f2
 unfold wpList
 exact⟨o,⟨M,R,o,F,G,H,Wk.refl _⟩,I _ _ (f3 _ _ (t _ _ L))⟩
theorem OW:∀{hs:List (Aa×Blk)},F2 hs=true→∀k,(At hs k).g=0
 |[],_,k=>rfl
 |(k',b)::r,h,k=>by
  simp only[F2,Yb]at h
  simp only[At]
  split
  ·exact Ya h.1
  ·exact OW h.2 k
theorem ek{k:Aa}{ks:List Aa}:ks.any (Ba k)=true↔k∈ks:=by
 rw[YG]
 exact⟨fun⟨q,a,b⟩=>by rw[BR.1 b];exact a,fun h=>⟨k,h,BR.2 rfl⟩⟩
theorem tC(a b:List (Aa×Blk))(k:Aa):At (a++b) k=if k∈a.map (·.1)then At a k else At b k:=by
 induction a with
 |nil=>simp
 |cons p a f=>
  obtain⟨q,d⟩:=p
  simp only[GJ,At,Y1,YF]
  cases c:Ba q k with
  |true=>rw[Yj (.inl (BR.1 c).symm)]
  |false=>
   have:k≠q:=fun e=>by rw[BR.2 e.symm]at c;cases c
   grind
theorem Ll{fr fl:List Aa}:∀(hs:List (Aa×Blk)) (ks:List Aa) (k:Aa),(k∈ks→At (Ch ks fr fl hs) k=D0)∧(k∉ks→(At (Ch ks fr fl hs) k=At hs k∧(k∈fl∨FU fr (At hs k).cells=false))∨At (Ch ks fr fl hs) k=D0)
 |[],ks,k=>⟨fun _=>rfl,fun _=>.inr rfl⟩
 |(q,b)::r,ks,k=>by
  simp only[Ch]
  split
  ·rename_i d a
   have f:q∉ks:=fun hm=>by rw[ek.2 hm]at d;cases d
   simp only[At]
   cases c:Ba q k with
   |true=>
    have c:=BR.1 c
    subst c
    refine⟨fun h=>absurd h f,fun _=>.inl ⟨rfl,?_⟩⟩
    simp only[Yu,YN]at a
    rcases a with a|a
    ·exact .inl (ek.1 a)
    grind
   |false=>exact Ll r ks k
  ·obtain⟨d,a⟩:=Ll (fr:=fr) (fl:=fl) r (q::ks) k
   refine⟨fun h=>d (YC _ h),fun h=>?_⟩
   by_cases c:k=q
   ·grind
   ·rcases a (fun hm=>(YF.1 hm).elim c h)with⟨i,j⟩|e
    ·have:Ba q k=false:=by
      cases g:Ba q k with
      |true=>exact absurd (BR.1 g).symm c
      |false=>rfl
     simp only[At,this]
     grind
    grind
theorem OH{r:Ren}:∀(Al:List (Aa×Blk)) (H:Hp) (q:Aa),(∀p∈Al,r.κ p.1≠q)→Ct r Al H q=H q
 |[],H,q,h=>rfl
 |(k,b)::a,H,q,h=>by
  simp only[Ct]
  rw[OH a _ q (fun p c=>h p (YC _ c)),Au _ _ (fun e=>h (k,b) (YJ ..) e.symm)]
theorem dS{r:Ren}{os:Nat}(d:∀q k:Aa,Bb os q=true→Bb os k=true→q≠k→r.κ q≠r.κ k):∀(Al:List (Aa×Blk)) (H:Hp),CU os Al=true→∀k b,(k,b)∈Al→Ct r Al H (r.κ k)=Ax r k b∧At Al k=b∧Bb os k=true∧b.live=true
 |[],H,_,k,b,hm=>by cases hm
 |(q,c)::rest,H,g,k,b,hm=>by
  simp only[CU,Yb,YN]at g
  obtain⟨⟨⟨i,u⟩,j⟩,m⟩:=g
  have f:∀p∈rest,p.1≠q:=fun p a e=>by
   have:(rest.any fun p=>Ba q p.1)=true:=YG.2 ⟨p,a,BR.2 e.symm⟩
   rw[this]at j;cases j
  have h:∀(l:List (Aa×Blk)),CU os l=true→∀p∈l,Bb os p.1=true:=by
   intro l
   induction l with
   |nil=>intro _ p a;cases a
   |cons p l w=>
    obtain⟨x,y⟩:=p
    intro hl p a
    simp only[CU,Yb]at hl
    rcases YF.1 a with rfl|a
    ·exact hl.1.1.1
    ·exact w hl.2 p a
  simp only[Ct]
  rcases YF.1 hm with e|hm
  ·cases e
   refine⟨?_,by simp only[At,BR.2 rfl],i,u⟩
   rw[OH rest _ _ (fun p a=>d _ _ (h rest m p a) i (f p a)),AF]
  ·obtain⟨n,o,s,t⟩:=dS d rest (updH H (r.κ q) (Ax r q c)) m k b hm
   refine⟨n,?_,s,t⟩
   have:Ba q k=false:=by
    cases v:Ba q k with
    |true=>exact absurd (BR.1 v).symm (f _ hm)
    |false=>rfl
   simp only[At,this]
   exact o
theorem VN:∀{Al:List (Aa×Blk)},D6 C Al→∀p∈Al,p.1.1≠1→C.no (C.κ p.1)
 |(k,b)::r,h,p,c,a=>by
  simp only[D6]at h
  split at h
  ·rename_i d
   rcases YF.1 c with rfl|c
   ·exact absurd (Ya d) a
   ·exact VN h p c a
  ·rcases YF.1 c with rfl|c
   ·exact h.1
   ·exact VN h.2 p c a
theorem VW{H:Hp}:∀{ks:List Aa},Hn H ks→∀k∈ks,F1 (H k).cells
 |q::r,h,k,a=>by
  rcases YF.1 a with rfl|a
  ·exact h.1
  ·exact VW h.2 k a
theorem EE{os:Nat}{k:Aa}(h:Bb os k=true):k.1=1∨(k.1=0∧k.2<os):=by
 simp only[Bb,Yu,Yb]at h
 rcases h with h|⟨a,b⟩
 ·exact .inl (Ya h)
 ·exact .inr ⟨Ya a,Yd b⟩
theorem eD{fr:List Aa}:∀(ss:List (Nat×AV)) (j:Nat),AH (Db fr ss) j=.top∨(AH (Db fr ss) j=AH ss j∧Fe fr (AH ss j)=false)
 |[],j=>.inl rfl
 |(i,x)::r,j=>by
  simp only[Db,AH]
  split
  ·grind
  ·exact eD r j
theorem su(hC:CxOk C){os:Nat}{fx:List Nat}(hO:C.outs=os)(hF:C.fx=fx){c:Code}{k:Nat}{ss:List (Nat×AV)}{hs:List (Aa×Blk)}(l:Option Nat)(fo:Operand)(aZ:List Operand)(m:Fc c k=some (l,fo,aZ))
  (f:FuncId) (first u xs:List AV) (hf:ev (AH ss) fo=.fn (.func f) first u) (hxs:first++aZ.map (ev (AH ss))++u=xs) (ks:List Aa) (J:List (Aa×Blk)) (hhb:(ks.map fun k=>(k,At hs k))=J)
  {ι:Type} (I:ι→Prop) (xF:ι→AV) (s:ι→List (Aa×Blk)) (fr fl:List Aa) (M:(Jn fr fx&&F2 hs&&Jv n l&&ks.all (Bb os))=true) (t:∀i,(CU os (s i)&&JX fr (s i))=true) (H:∀i,D6 C (s i)) (hfl:Hn (At hs) fl)
  (T:∀r:Ren,r.θ=C.θ→r.H0=C.H0→r.κ=C.κ→r.no=C.no→∀V,(∀p∈J,(V (r.κ p.1)).g=r.γ p.1+p.2.g∧(p.2.live=true→V (r.κ p.1)=Ax r p.1 p.2))→(∀k:Aa,k.1≤C.l→¬r.no k→V k=r.H0 k)→
   ZbW P f (C.l+1) (Af r xs) V (fun y W=>∃i,I i∧∃a:Aa→Nat,(∀k,k∉fr→a k=r.γ k)∧y=ren ⟨r.κ,a,r.θ,r.H0,r.no⟩ (xF i)∧W=Ct ⟨r.κ,a,r.θ,r.H0,r.no⟩ (s i) V))
  (h:∀i,I i→LO P n C c (k+1) (Ab (Fv l (xF i) (Db fr ss)) (s i++Ch ((s i).map (·.1)) fr fl hs)) Q):LO P n C c k (Ab ss hs) Q:=by
 subst hO
 subst hF
 simp only[Yb]at M
 obtain⟨⟨⟨k3,k4⟩,k5⟩,k6⟩:=M
 intro γ σ act w hg z hR
 have hr:=hC.ren γ
 have hs':∀j,σ.s j=ren (C.r γ) (AH ss j):=fun j=>(z.s j).1 AQ
 have A:∀y:Operand,ev σ.s y=ren (C.r γ) (ev (AH ss) y):=fun y=>HZ (c:=[]) z AQ (by cases y<;>rfl)
 unfold Fc at m
 split at m
 case h_2=>cases m
 rename_i o ho
 split at m
 case h_2=>cases m
 rename_i cl hgd hopc
 split at m
 case h_2=>cases m
 rename_i fo' hcal
 simp only[Yf,E1]at m
 obtain⟨hd,rfl,rfl⟩:=m
 rw[BM]at ho
 have hlt:k<(Bx c).toList.length:=by
  grind
 have U:(Bx c).toList.drop k=o::(Bx c).toList.drop (k+1):=by
  rw[HK hlt]
  grind
 rw[U]
 have L:∀q k:Aa,Bb C.outs q=true→Bb C.outs k=true→q≠k→(C.r γ).κ q≠(C.r γ).κ k:=fun q k Z h2 h3=>hr.ne (EE Z) (EE h2) h3
 have hA:=T (C.r γ) rfl rfl rfl rfl σ.H (fun p E=>by
  rw[←hhb]at E
  obtain⟨q,g,rfl⟩:=YQ.1 E
  have hq':=EE (Ym.1 k6 q g)
  refine⟨?_,fun hl=>z.h q hl⟩
  obtain⟨q1,q2⟩:=q
  simp only at hq'
  rcases hq' with rfl|⟨rfl,h2⟩
  ·have:=z.g q2
   rw[←hr.own]at this
   exact this
  ·exact z.go q2 h2) z.o
 have S:Af (C.r γ) xs=Af (C.r γ) first++cl.args.toList.map (ev σ.s)++Af (C.r γ) u:=by
  rw[←hxs,Fa,Fa]
  congr 2
  rw[D8,GH]
  exact Y7 fun y _=>(A y).symm
 have hfe:ev σ.s fo'=.fn (.func f) (Af (C.r γ) first) (Af (C.r γ) u):=by rw[A,hf];simp[ren]
 have hrop:A9 P C.l n o (fun σ'=>∃i,I i∧∃a:Aa→Nat,(∀q,q∉fr→a q=γ q)∧σ'=⟨Z5 l σ.s (ren (C.r a) (xF i)),Ct (C.r a) (s i) σ.H⟩) σ:=by
  unfold A9
  rw[hopc]
  simp only[hcal,hfe]
  rw[S]at hA
  refine hA.mono fun y W ⟨i,hi,a,N,e2,e3⟩=>?_
  unfold Mn BZ
  rw[hd]
  cases l with
  |none=>exact⟨i,hi,a,N,by rw[e3];rfl⟩
  |some d=>exact⟨Yd k5,i,hi,a,N,by rw[e2,e3];rfl⟩
 refine TV (by simp[Region.wanted,hgd]) (HW hrop) hR fun σ' Y w' hK O=>?_
 obtain⟨i,hi,a,N,rfl⟩:=hK
 have h:=h i hi
 have H:=H i
 have t:=t i
 generalize s i=Al at h H t O
 generalize xF i=x at h O
 simp only[Yb]at t
 obtain⟨k1,k2⟩:=t
 have hsub:∀q,q∈fr→∃b,(q,b)∈Al:=fun q g=>by
  obtain⟨p,E,hk⟩:=YG.1 (Ym.1 k2 q g)
  rw[BR.1 hk];exact⟨p.2,E⟩
 let τ2:St:=Ab (Fv l x (Db fr ss)) (Al++Ch (Al.map (·.1)) fr fl hs)
 have D:∀q,At (Al++Ch (Al.map (·.1)) fr fl hs) q=if q∈Al.map (·.1)then At Al q else At (Ch (Al.map (·.1)) fr fl hs) q:=fun q=>tC _ _ _
 have hin:∀q,q∈Al.map (·.1)→∃b,(q,b)∈Al:=fun q g=>by obtain⟨p,E,rfl⟩:=YQ.1 g;exact⟨p.2,E⟩
 have F:∀q b,(q,b)∈Al→Ct (C.r a) Al σ.H ((C.r a).κ q)=Ax (C.r a) q b∧At Al q=b∧Bb C.outs q=true∧b.live=true:=dS (r:=C.r a) L Al σ.H k1
 have B:∀q,q∉Al.map (·.1)→Bb C.outs q=true→Ct (C.r a) Al σ.H ((C.r a).κ q)=σ.H ((C.r a).κ q)∧a q=γ q:=fun q g v=>by
  refine⟨OH _ _ _ fun p E=>L _ _ (F p.1 p.2 E).2.2.1 v fun e=>g (YQ.2 ⟨p,E,e⟩),N q fun hf=>?_⟩
  grind
 have K:∀q,Bb C.outs q=true→(σ.H (C.κ q)).g=γ q→(Ct (C.r a) Al σ.H (C.κ q)).g=a q+(At (Al++Ch (Al.map (·.1)) fr fl hs) q).g:=fun q v hq0=>by
  rw[D]
  split
  ·rename_i hm
   obtain⟨b,J⟩:=hin q hm
   obtain⟨a1,X,_⟩:=F q b J
   rw[show C.κ q=(C.r a).κ q from rfl,a1,X]
   rfl
  ·rename_i hm
   obtain⟨a1,X⟩:=B q hm v
   rw[show C.κ q=(C.r a).κ q from rfl,a1,X]
   have:(At (Ch (Al.map (·.1)) fr fl hs) q).g=0:=by
    rcases(Ll (fr:=fr) (fl:=fl) hs (Al.map (·.1)) q).2 hm with⟨e,_⟩|e
    ·rw[e];exact OW k4 q
    ·rw[e];rfl
   rw[this]
   exact hq0
 have hG2:RG (C.r a) C.l C.outs [] τ2 ⟨fun j=>ren (C.r a) (τ2.s j),Ct (C.r a) Al σ.H⟩:=by
  refine⟨fun j=>⟨fun _=>rfl,fun hn=>absurd AQ hn⟩,fun q g=>?_,fun d=>?_,fun i hi=>?_,fun q g=>?_,fun q g hn=>?_⟩
  ·show Ct (C.r a) Al σ.H ((C.r a).κ q)=Ax (C.r a) q (At (Al++Ch (Al.map (·.1)) fr fl hs) q)
   replace g:(At (Al++Ch (Al.map (·.1)) fr fl hs) q).live=true:=g
   rw[D]at g⊢
   split at g
   ·grind
   ·rename_i hm
    rw[Yi hm]
    rcases(Ll (fr:=fr) (fl:=fl) hs (Al.map (·.1)) q).2 hm with⟨e,e'⟩|e
    ·rw[e]at g⊢
     have v:=z.k q g
     have t:Bb C.outs q=true:=by
      obtain⟨q1,q2⟩:=q
      simp only at v
      simp only[Bb,Yu,Yb]
      rcases v with rfl|⟨rfl,h2⟩
      ·exact .inl rfl
      ·exact .inr ⟨rfl,XZ h2⟩
     obtain⟨a1,X⟩:=B q hm t
     rw[a1]
     have J:=z.h q g
     have G:Af (C.r a) (At hs q).cells=Af (C.r γ) (At hs q).cells:=by
      rcases e' with e'|e'
      ·rw[GN (VW hfl q e'),GN (VW hfl q e')]
      ·exact I4 (r:=C.r γ) N _ e'
     show σ.H ((C.r γ).κ q)=_
     rw[J]
     simp only[Ax]
     rw[G,show(C.r a).γ q=a q from rfl,X]
     rfl
    ·rw[e]at g;cases g
  ·have:=K (1,d) rfl (by
    have:=z.g d
    rw[show((Ab ss hs).H (1,d)).g=0 from OW k4 _]at this
    rw[hC.own];exact this)
   rw[hC.own]at this
   exact this
  ·exact K (0,i) (by simp only[Bb,Yu,Yb];exact .inr ⟨rfl,XZ hi⟩) (by
    have:=z.go i hi
    rw[show((Ab ss hs).H (0,i)).g=0 from OW k4 _]at this
    exact this)
  ·replace g:(At (Al++Ch (Al.map (·.1)) fr fl hs) q).live=true:=g
   rw[D]at g
   split at g
   ·rename_i hm
    obtain⟨b,J⟩:=hin q hm
    exact EE (F q b J).2.2.1
   ·rename_i hm
    rcases(Ll (fr:=fr) (fl:=fl) hs (Al.map (·.1)) q).2 hm with⟨e,e'⟩|e
    ·rw[e]at g;exact z.k q g
    ·rw[e]at g;cases g
  ·show Ct (C.r a) Al σ.H q=C.H0 q
   rw[OH _ _ _ fun p E e=>?_]
   ·exact z.o q g hn
   ·by_cases Z:p.1.1=1
    ·obtain⟨⟨p1,p2⟩,p3⟩:=p
     simp only at Z
     subst Z
     rw[show(C.r a).κ (1,p2)=(C.l+1,p2)from hC.own p2]at e
     grind
    ·exact hn (by rw[←e];exact VN H p E Z)
 refine h a _ Y w' (hC.G γ a (fun i hi=>N _ fun hm=>?_) hg) hG2 (R.weaken O fun j=>?_)
 ·have:=Ym.1 k3 _ hm
  simp only[YN,KM]at this
  rcases this with h|h
  ·cases h
  ·have:(C.fx.any (Nat.beq i))=true:=YG.2 ⟨i,hi,by simp⟩
   grind
 ·have old:ren (C.r a) (AH (Db fr ss) j)=σ.s j∨ren (C.r a) (AH (Db fr ss) j)=.top:=by
   rcases eD (fr:=fr) ss j with e|⟨e,e'⟩
   ·right;rw[e];simp[ren]
   ·left
    rw[e,hs' j]
    exact da (r:=C.r γ) N _ e'
  show ren (C.r a) (AH (Fv l x (Db fr ss)) j)=_∨ren (C.r a) (AH (Fv l x (Db fr ss)) j)=.top
  cases l with
  |none=>exact old
  |some d=>
   simp only[Fv,AH,Z5,upd]
   cases hj:Nat.beq d j with
   |true=>
    have:=Ya hj
    grind
   |false=>
    have:j≠d:=fun e=>by rw[e]at hj;simp at hj
    grind
theorem uu(D:CxOk C){os:Nat}{fx:List Nat}(F:C.outs=os)(E:C.fx=fx){c:Code}{k:Nat}{ss:List (Nat×AV)}{hs:List (Aa×Blk)}(e:Option Nat)(l:Operand)(j:List Operand)(q:Fc c k=some (e,l,j))
  (f:FuncId) (first d xs:List AV) (G:ev (AH ss) l=.fn (.func f) first d) (t:first++j.map (ev (AH ss))++d=xs) (ks:List Aa) (m:List (Aa×Blk)) (p:(ks.map fun k=>(k,At hs k))=m)
  (x:AV) (Al:List (Aa×Blk)) (fr fl:List Aa) (i:(CU os Al&&JX fr Al&&Jn fr fx&&F2 hs&&Jv n e&&ks.all (Bb os))=true) (s:D6 C Al) (o:Hn (At hs) fl)
  (g:∀r:Ren,r.θ=C.θ→r.H0=C.H0→r.κ=C.κ→r.no=C.no→F4 P C.l r f xs m x Al fr)
  (h:LO P n C c (k+1) (Ab (Fv e x (Db fr ss)) (Al++Ch (Al.map (·.1)) fr fl hs)) Q):LO P n C c k (Ab ss hs) Q:=by
 simp only[Yb]at i
 obtain⟨⟨⟨⟨⟨I,J⟩,K⟩,L⟩,M⟩,N⟩:=i
 exact su D F E e l j q f first d xs G t ks m p (ι:=Unit) (fun _=>True) (fun _=>x) (fun _=>Al) fr fl (by simp only[Yb];exact⟨⟨⟨K,L⟩,M⟩,N⟩) (fun _=>by simp only[Yb];exact⟨I,J⟩) (fun _=>s) o
  (fun r w z A B u a b=>(g r w z A B u a b).mono fun y v H=>⟨(),trivial,H⟩) fun _ _=>h
end
def C9(l:Nat)(ks:List Aa):Aa→Aa
 |(0,i)=>match A2 ks i with|some k=>k|none=>(0,0)
 |(_+1,d)=>(l+1,d)
def FD(a:List Nat):Aa→Nat
 |(0,i)=>match A2 a i with|some g=>g|none=>0
 |(_+1,_)=>0
def BQ(l:Nat)(ks:List Aa)(a:List Nat)(θ:Nat→AV)(H:Hp):Ren:=⟨C9 l ks,FD a,θ,H,fun k=>k∈ks⟩
def GC(l:Nat)(ks:List Aa)(a:List Nat)(r:Ren):Prop:=r.κ=C9 l ks∧∀i,i<ks.length→r.γ (0,i)=FD a (0,i)
def Ca(r:Ren):Nat→List Blk→List Blk
 |_,[]=>[]
 |i,b::a=>Ax r (0,i) b::Ca r (i+1) a
def CR(H:Hp):List Aa→List Blk→Hp
 |k::ks,b::a=>CR (updH H k b) ks a
 |_,_=>H
theorem Up:∀(ks:List Aa) (a:List Blk) (H:Hp) (q:Aa),q∉ks→CR H ks a q=H q
 |[],a,H,q,h=>by cases a<;>rfl
 |k::ks,[],H,q,h=>rfl
 |k::ks,b::a,H,q,h=>by
  simp only[CR]
  rw[Up ks a _ q (fun hm=>h (YC _ hm)),Au _ _ (fun e=>h (by rw[e];exact YJ ..))]
theorem fc:∀(ks:List Aa) (a:List Blk) (H:Hp),ks.Nodup→∀(j:Nat) (k:Aa) (b:Blk),ks[j]?=some k→a[j]?=some b→CR H ks a k=b
 |[],a,H,_,j,k,b,h,_=>by simp at h
 |q::ks,[],H,_,_,_,_,_,h=>by simp at h
 |q::ks,c::a,H,e,j,k,b,d,hb=>by
  simp only[CR]
  rw[List.nodup_cons]at e
  cases j with
  |zero=>
   simp only[Y2,Yf]at d hb
   subst d;subst hb
   rw[Up ks a _ _ e.1,AF]
  |succ j=>
   simp only[IU]at d hb
   exact fc ks a _ e.2 j k b d hb
theorem em{r:Ren}:∀(a:List Blk) (i j:Nat),(Ca r i a)[j]?=(a[j]?).map (Ax r (0,i+j))
 |[],i,j=>by simp[Ca]
 |b::a,i,0=>by simp[Ca]
 |b::a,i,j+1=>by
  simp only[Ca,IU,em a (i+1) j,show i+1+j=i+(j+1)from by omega]
theorem cI{P:Program}{T:Nat→Option TI}{n:Nat}{f:FuncId}{fn:Func}(J:List ResultVar)(c:Code){l:Nat}{xs:List AV}{H:Hp}{g:AV→Hp→Prop}(ks:List Aa)(t:List Nat)(fx:List Nat)(θ:Nat→AV)(ys:List AV)(hs:List (Aa×Blk))(LPost:AV→List Blk→Prop)
  (V:P.funcs[f]?=some fn) (hb:fn.body=some c) (s:(fn.name== "runtime.NumGoroutine")=false) (Z:fn.ntmps=n) (hr:fn.results.toList=J) (hx:xs.length≤n) (S:AS P T)
  (D:∀k∈ks,k.1≤l) (u:ks.Nodup) (W:∀d,At hs (1,d)=D0) (F:∀k,(At hs k).live=true→k.1=0∧k.2<ks.length)
  (R:∀i k,ks[i]?=some k→(H k).g=FD t (0,i)+(At hs (0,i)).g∧((At hs (0,i)).live=true→H k=Ax (BQ l ks t θ H) (0,i) (At hs (0,i))))
  (I:Af (BQ l ks t θ H) ys=xs)
  (h:∀C,CxOk C→C.outs=ks.length→C.fx=fx→C.l=l→C.H0=H→C.θ=θ→C.κ=C9 l ks→C.no=(fun k=>k∈ks)→LW P n C c (Ab (CN 0 ys) hs) (FQ T J ks.length LPost))
  (v:∀y b,LPost y b→b.length=ks.length∧(∀x∈b,x.live=true)∧∀r:Ren,r.κ=C9 l ks→r.θ=θ→r.H0=H→r.no=(fun k=>k∈ks)→(∀i∈fx,r.γ (0,i)=FD t (0,i))→g (ren r y) (CR H ks (Ca r 0 b))):ZbW P f l xs H g:=by
 let C:Base→Cx:=fun B=>⟨l,B,C9 l ks,θ,H,ks.length,fun k=>k∈ks,fx,fun γ=>∀i∈fx,γ (0,i)=FD t (0,i)⟩
 have a:∀i,i<ks.length→ks[i]?=some (C9 l ks (0,i)):=fun i hi=>by
  show _=some (match A2 ks i with|some k=>k|none=>(0,0))
  rw[BM,Yc hi]
 have E:∀(i:Nat) (k:Aa),ks[i]?=some k→i<ks.length:=fun i k hi=>by
  grind
 have K:∀B,CxOk (C B):=fun B=>by
  refine⟨fun _=>rfl,fun i hi=>D _ (Yo (a i hi)),fun i j hi Y e=>?_,fun k w=>?_,fun γ γ' he A i hi=>by rw[he i hi];exact A i hi⟩
  ·have m:=a i hi
   have o:=a j Y
   rw[show C9 l ks (0,i)=C9 l ks (0,j)from e]at m
   have Q:ks[i]?=ks[j]?:=m.trans o.symm
   exact(List.getElem?_inj hi u).1 Q
  ·obtain⟨i,hi⟩:=Yy.1 (show k∈ks from w)
   grind
 refine eq J C (γ:=FD t) (LPost:=LPost) (ys:=ys) (hs:=hs) V hb s Z hr hx S K (fun B=>⟨rfl,rfl,rfl,fun i _=>rfl⟩) (fun B=>I) (fun _=>rfl) W (fun B k w=>?_) (fun B i hi=>?_) (fun B γ y b N A hy L _=>?_) (fun B=>h _ (K B) rfl rfl rfl rfl rfl rfl rfl)
 ·obtain⟨m,o⟩:=F k w
  obtain⟨k1,M⟩:=k
  simp only at m o
  subst m
  exact⟨rfl,o,(R M _ (a M o)).2 w⟩
 ·grind
 ·obtain⟨U,z,v⟩:=v y b hy
  have v:=v ((C B).r γ) rfl rfl rfl rfl fun i hi=>A i hi
  have O:N=CR H ks (Ca ((C B).r γ) 0 b):=by
   funext q
   by_cases G:q∈ks
   ·obtain⟨i,hi⟩:=Yy.1 G
    have X:=E i q hi
    have p:b[i]?=some b[i]:=Yc (by omega)
    have m:=L.live i _ p (z _ (Yo p))
    have o:C9 l ks (0,i)=q:=by
     grind
    rw[show(C B).κ (0,i)=q from o]at m
    rw[m,fc ks _ H u i q (Ax ((C B).r γ) (0,i) b[i]) hi]
    rw[em,p,YH]
    rfl
   ·rw[Up ks _ H q G]
    exact L.o q G
  rw[O];exact v
theorem o7{P:Program}{T:Nat→Option TI}{n:Nat}{f:FuncId}{fn:Func}(w:List ResultVar)(c:Code){l:Nat}{xs:List AV}{H:Hp}{a:AV→Hp→Prop}(ks:List Aa)(e:List Nat)(fx:List Nat)(θ:Nat→AV)(ys:List AV)(hs:List (Aa×Blk))(LPost:AV→List Blk→Prop)
  (G:P.funcs[f]?=some fn) (hb:fn.body=some c) (g:(fn.name== "runtime.NumGoroutine")=false) (J:fn.ntmps=n) (K:fn.results.toList=w) (L:xs.length≤n) (E:AS P T)
  (q:∀k∈ks,k.1≤l) (t:ks.Nodup) (p:∀i,i<ks.length→i∈fx) (I:∀d,At hs (1,d)=D0) (s:∀k,(At hs k).live=true→k.1=0∧k.2<ks.length)
  (D:∀i k,ks[i]?=some k→(H k).g=FD e (0,i)+(At hs (0,i)).g∧((At hs (0,i)).live=true→H k=Ax (BQ l ks e θ H) (0,i) (At hs (0,i))))
  (v:Af (BQ l ks e θ H) ys=xs)
  (h:∀C,CxOk C→C.outs=ks.length→C.fx=fx→C.l=l→C.H0=H→C.θ=θ→C.κ=C9 l ks→C.no=(fun k=>k∈ks)→LW P n C c (Ab (CN 0 ys) hs) (FQ T w ks.length LPost))
  (u:∀y b,LPost y b→b.length=ks.length∧(∀x∈b,x.live=true)∧∃Y' bs',(∀r,GC l ks e r→ren r y=Y')∧(∀r,GC l ks e r→Ca r 0 b=bs')∧a Y' (CR H ks bs')):ZbW P f l xs H a:=by
 refine cI w c ks e fx θ ys hs LPost G hb g J K L E q t I s D v h fun y b hy=>?_
 obtain⟨m,o,Y',bs',F,B,u⟩:=u y b hy
 refine⟨m,o,fun r z _ _ _ A=>?_⟩
 have j:GC l ks e r:=⟨z,fun i hi=>A i (p i hi)⟩
 rw[F _ j,B _ j];exact u
theorem pn{P:Program}{T:Nat→Option TI}{n:Nat}{f:FuncId}{fn:Func}(v:List ResultVar)(c:Code){l:Nat}{xs:List AV}{H:Hp}{a:AV→Hp→Prop}(ks:List Aa)(g:List Nat)(fx:List Nat)(θ:Nat→AV)(ys:List AV)(hs:List (Aa×Blk))(Y:AV)(j:List Blk){Y':AV}{bs':List Blk}
  (E:P.funcs[f]?=some fn) (hb:fn.body=some c) (e:(fn.name== "runtime.NumGoroutine")=false) (G:fn.ntmps=n) (J:fn.results.toList=v) (K:xs.length≤n) (B:AS P T)
  (q:∀k∈ks,k.1≤l) (t:ks.Nodup) (p:∀i,i<ks.length→i∈fx) (F:∀d,At hs (1,d)=D0) (s:∀k,(At hs k).live=true→k.1=0∧k.2<ks.length)
  (A:∀i k,ks[i]?=some k→(H k).g=FD g (0,i)+(At hs (0,i)).g∧((At hs (0,i)).live=true→H k=Ax (BQ l ks g θ H) (0,i) (At hs (0,i))))
  (u:Af (BQ l ks g θ H) ys=xs) (m:j.length=ks.length) (o:∀b∈j,b.live=true) (D:∀r,GC l ks g r→ren r Y=Y') (z:∀r,GC l ks g r→Ca r 0 j=bs')
  (h:∀C,CxOk C→C.outs=ks.length→C.fx=fx→C.l=l→C.H0=H→C.θ=θ→C.κ=C9 l ks→C.no=(fun k=>k∈ks)→LW P n C c (Ab (CN 0 ys) hs) (FQ T v ks.length (fun y b=>y=Y∧b=j)))
  (I:a Y' (CR H ks bs')):ZbW P f l xs H a:=by
 exact o7 v c ks g fx θ ys hs (fun y b=>y=Y∧b=j) E hb e G J K B q t p F s A u h fun y b ⟨w,x⟩=>by subst w;subst x;exact⟨m,o,Y',bs',D,z,I⟩
section
variable {P:Program} {l:Nat} {r:Ren} {f:FuncId} {xs xs':List AV} {hb Al:List (Aa×Blk)} {x x':AV}
theorem rv(e:Af r xs=xs')(g:ren r x=x')(h:∀a,(∀p∈hb,(a (r.κ p.1)).g=r.γ p.1+p.2.g∧(p.2.live=true→a (r.κ p.1)=Ax r p.1 p.2))→(∀k:Aa,k.1≤l→¬r.no k→a k=r.H0 k)→ZbW P f (l+1) xs' a (fun y b=>y=x'∧b=Ct r Al a)):
  F4 P l r f xs hb x Al []:=fun a hb i=>by
 rw[e]
 exact(h a hb i).mono fun y b ⟨c,d⟩=>⟨r.γ,fun _ _=>rfl,by rw[c,←g],d⟩
end
theorem rh{α:Type}{e:α→List D}{r:Ren}{k:Aa}(xs:List α):Ep r k (Ac e xs):=by
 unfold Ep
 rw[GN (DT e xs)]
 refine Ym.2 fun x a=>?_
 obtain⟨d,_,rfl⟩:=YQ.1 a
 rfl
theorem te{r:Ren}{k:Aa}{vs:List AV}(h:(Af r vs).all (AV.low (r.κ k).1)=true):Ep r k vs:=h
theorem V1{r:Ren}{k:Aa}(ds:List D):Ep r k (ds.map .d):=by
 unfold Ep
 rw[FY]
 refine Ym.2 fun x a=>?_
 obtain⟨d,_,rfl⟩:=YQ.1 a
 rfl
theorem db{α:Type}(e:α→List D)(xs:List α):Ea (Ac e xs):=fun x a=>by
 obtain⟨d,_,rfl⟩:=YQ.1 a;rfl
theorem rL{α:Type}{e:α→List D}{xs:List α}{off cn sz:Nat}{z:List AV}(hl:∀x,(e x).length=sz)(h:off+cn≤xs.length):
  R2 (Ac e xs) off cn sz z ((Ac e xs).take (off*sz)++(List.replicate cn z).flatten++(Ac e xs).drop ((off+cn)*sz)):=by
 refine⟨?_,rfl⟩
 rw[FR hl]
 exact YU _ h
theorem re{α:Type}{e:α→List D}{xs:List α}{off sz:Nat}{A B:List AV}(hl:∀x,(e x).length=sz)(h:off≤xs.length):∃m,((Ac e xs).take (off*sz)++A++B).take m=Ac e (xs.take off):=by
 refine⟨off*sz,?_⟩
 have a:((Ac e xs).take (off*sz)).length=off*sz:=by
  rw[YS,FR hl]
  exact GE (YU _ h)
 rw[Y8,Rj (by omega),M6 (by omega),UK hl]
def Gk(n:Nat):List (Aa×Blk)→Bool
 |[]=>true
 |(k,_)::r=>Nat.beq k.1 0&&Nat.ble (k.2+1) n&&Gk n r
theorem Vn{n:Nat}:∀{hs:List (Aa×Blk)},Gk n hs=true→∀k,(At hs k).live=true→k.1=0∧k.2<n
 |[],_,k,h=>by simp[At,D0]at h
 |(q,b)::r,hi,k,h=>by
  simp only[Gk,Yb]at hi
  simp only[At]at h
  split at h
  ·rename_i a
   have a:=BR.1 a
   subst a
   exact⟨Ya hi.1.1,Yd hi.1.2⟩
  ·exact Vn hi.2 k h
theorem UA{n:Nat}:∀{hs:List (Aa×Blk)},Gk n hs=true→∀d,At hs (1,d)=D0
 |[],_,d=>rfl
 |(q,b)::r,hi,d=>by
  simp only[Gk,Yb]at hi
  simp only[At]
  split
  ·rename_i a
   have a:=BR.1 a
   subst a
   have:=Ya hi.1.1
   grind
  ·exact UA hi.2 d
def HD(H:Hp)(r:Ren)(hs:List (Aa×Blk)):Nat→List Aa→Prop
 |_,[]=>True
 |i,k::ks=>((H k).g=r.γ (0,i)+(At hs (0,i)).g∧((At hs (0,i)).live=true→H k=Ax r (0,i) (At hs (0,i))))∧HD H r hs (i+1) ks
theorem VF{H:Hp}{r:Ren}{hs:List (Aa×Blk)}:∀{ks:List Aa} {i:Nat},HD H r hs i ks→∀j k,ks[j]?=some k→(H k).g=r.γ (0,i+j)+(At hs (0,i+j)).g∧((At hs (0,i+j)).live=true→H k=Ax r (0,i+j) (At hs (0,i+j)))
 |[],i,_,j,k,h=>by simp at h
 |q::ks,i,h,0,k,a=>by
  simp only[Y2,Yf]at a
  subst a
  exact h.1
 |q::ks,i,h,j+1,k,a=>by
  have:=VF h.2 j k (by simpa using a)
  grind
def G3(l:Nat):List Aa→Prop
 |[]=>True
 |k::ks=>k.1≤l∧G3 l ks
theorem Pc{l:Nat}:∀{ks:List Aa},G3 l ks→∀k∈ks,k.1≤l
 |q::ks,h,k,a=>by
  rcases YF.1 a with rfl|a
  ·exact h.1
  ·exact Pc h.2 k a
def He:Nat→List Nat
 |0=>[]
 |n+1=>He n++[n]
theorem OQ:∀{n i:Nat},i<n→i∈He n
 |n+1,i,h=>by
  simp only[He,IS,KN]
  rcases Yt i n with a|a
  ·exact .inl (OQ a)
  grind
theorem o6{P:Program}{T:Nat→Option TI}{n:Nat}{f:FuncId}{fn:Func}(u:List ResultVar)(c:Code){l:Nat}{xs:List AV}{H:Hp}{a:AV→Hp→Prop}(ks:List Aa)(g:List Nat)(os:Nat)(θ:Nat→AV)(ys:List AV)(hs:List (Aa×Blk))(Y:AV)(e:List Blk){Y':AV}{bs':List Blk}
  (A:P.funcs[f]?=some fn) (hb:fn.body=some c) (d:(fn.name== "runtime.NumGoroutine")=false) (D:fn.ntmps=n) (F:fn.results.toList=u) (G:xs.length≤n) (x:AS P T) (s:ks.length=os)
  (p:G3 l ks) (q:ks.Nodup) (j:Gk os hs=true) (w:HD H (BQ l ks g θ H) hs 0 ks) (t:Af (BQ l ks g θ H) ys=xs) (m:e.length=os) (o:∀b∈e,b.live=true) (z:∀r,GC l ks g r→ren r Y=Y') (v:∀r,GC l ks g r→Ca r 0 e=bs')
  (h:∀C,CxOk C→C.outs=os→C.fx=He os→C.l=l→C.H0=H→C.θ=θ→C.κ=C9 l ks→C.no=(fun k=>k∈ks)→LW P n C c (Ab (CN 0 ys) hs) (FQ T u os (fun y b=>y=Y∧b=e)))
  (E:a Y' (CR H ks bs')):ZbW P f l xs H a:=by
 subst s
 exact pn u c ks g (He ks.length) θ ys hs Y e A hb d D F G x (Pc p) q (fun i hi=>OQ hi) (UA j) (Vn j) (fun i k B=>by have:=VF w i k B;rw[YH]at this;exact this) t m o z v h E
theorem p9{α:Type}{e e':α→List D}{xs:List α}{j sz:Nat}{x:α}(b:xs[j]?=some x)(hl:∀x,(e x).length=sz)(he:∀x,e x=e' x):C2 (Ac e xs) (j*sz) ((e' x).map .d):=by
 have a:j<xs.length:=by
  grind
 have:=cF (z:=x) a hl he
 grind
theorem to{P:Program}{l o:Nat}{no b:Aa→Prop}{H j:Hp}{c:AV}{m:List AV}{y:AV}(h:BA P l no H c m y)(hl:l≤o)(i:∀q:Aa,q.1≤l→¬no q→¬b q)(r:∀q:Aa,q.1≤l→¬no q→j q=H q):BA P o b j c m y:=by
 obtain⟨f,first,a,e,h⟩:=h
 exact⟨f,first,a,e,fun l' p g s=>h l' p (Do hl g) fun k d n=>by rw[s k (Do d hl) (i k d n),r k d n]⟩
def gp:Code→Operand
 |.cond o _ _=>o
 |_=>.tmp 0
def Ec(c:Code)(k:Nat):Option Nat:=match Fc c k with|some (d,_,_)=>d|none=>none
def callF(c:Code)(k:Nat):Operand:=match Fc c k with|some (_,f,_)=>f|none=>.tmp 0
def Fg(c:Code)(k:Nat):List Operand:=match Fc c k with|some (_,_,xs)=>xs|none=>[]
theorem dN{P:Program}{n:Nat}{C:Cx}{Q:Exit→St→Prop}(m:CxOk C){os:Nat}{fx:List Nat}(p:C.outs=os)(o:C.fx=fx){c:Code}{k:Nat}{ss:List (Nat×AV)}{hs:List (Aa×Blk)}
  (f:FuncId) (first a xs:List AV) (i:Fc c k=some (Ec c k,callF c k,Fg c k)) (q:ev (AH ss) (callF c k)=.fn (.func f) first a) (l:first++(Fg c k).map (ev (AH ss))++a=xs) (ks:List Aa) (hb:List (Aa×Blk)) (e:(ks.map fun k=>(k,At hs k))=hb)
  (x:AV) (Al:List (Aa×Blk)) (fr fl:List Aa) (g:(CU os Al&&JX fr Al&&Jn fr fx&&F2 hs&&Jv n (Ec c k)&&ks.all (Bb os))=true) (j:D6 C Al) (d:Hn (At hs) fl)
  (b:∀r:Ren,r.θ=C.θ→r.H0=C.H0→r.κ=C.κ→r.no=C.no→F4 P C.l r f xs hb x Al fr)
  (h:LO P n C c (k+1) (Ab (Fv (Ec c k) x (Db fr ss)) (Al++Ch (Al.map (·.1)) fr fl hs)) Q):LO P n C c k (Ab ss hs) Q:=
 uu m p o _ _ _ i f first a xs q l ks hb e x Al fr fl g j d b h
end Go.Eng
namespace Go.Eng
open Go
set_option linter.all false
end Go.Eng
namespace Go.Eng
set_option linter.all false
open Go Go.RowKit Go.Shelf
theorem ff{α:Type}{e:α→List D}{xs:List α}{l h:Nat}(q:DL l h xs.length):DL l h (xs.map e).length:=by rw[Yz];exact q
theorem u0{α:Type}{e:α→List D}{xs:List α}{sz:Nat}(he:∀x,(e x).length=sz):∀d,d∈xs.map e→d.length=sz:=fun d h=>by
 grind
theorem fe{α:Type}{e:α→List D}{xs:List α}{sz l h:Nat}(he:∀x,(e x).length=sz):Ky (xs.map e) sz l h (((xs.drop l).take (h-l)).map e):=
 ⟨u0 he,by rw[←List.map_drop,←List.map_take]⟩
theorem qy{i:Int}{len sz:Nat}(a:0≤i)(h:i<len):Kc i len 0 sz (i.toNat*sz):=⟨a,h,by simp⟩
theorem r6{α:Type}{e:α→List D}{xs:List α}{j sz a:Nat}{z y:α}{vs:List D}(b:j<xs.length)(hl:∀x,(e x).length=sz)(h:a+vs.length≤sz)(he:e y=(e (xs.getD j z)).take a++vs++(e (xs.getD j z)).drop (a+vs.length)):
  GD (Ac e xs) (j*sz+a) (vs.map .d) (Ac e (xs.set j y)):=by
 have d:(j+1)*sz≤xs.length*sz:=YU _ b
 rw[YL,IX]at d
 refine⟨by rw[Yz,FR hl];omega,?_⟩
 have f:xs.getD j z=xs[j]:=by rw[Yw,Yc b];rfl
 rw[f]at he
 have hs:Ac e xs=Ac e (xs.take j)++((e xs[j]).map .d++Ac e (xs.drop (j+1))):=by
  conv=>lhs;rw[←GI j xs,HK b,O6,FS]
 have c:(Ac e (xs.take j)).length=j*sz:=by rw[FR hl,YS,GE (by omega)]
 have g:((e xs[j]).map AV.d).length=sz:=by rw[Yz,hl]
 rw[hs,List.take_append,M6 (by omega:(Ac e (xs.take j)).length≤j*sz+a),c,show j*sz+a-j*sz=a from by omega,Rj (by omega),
  List.drop_append,XU (by rw[c];omega),c,FL,show j*sz+a+(vs.map AV.d).length-j*sz=a+vs.length from by rw[Yz];omega,X5 (by omega),
  X3,Yj b,O6,FS,he]
 simp only[IT,List.map_take,List.map_drop,Y8]
end Go.Eng
namespace Go.Eng
set_option linter.all false
theorem U8{α:Type}{l:List α}{p:α→Bool}:((match l.findIdx? p with|some k=>(k:Int)|none=>-1)≥0)↔l.any p=true:=by
 rw[YG]
 cases h:l.findIdx? p with
 |none=>
  rw[XO]at h
  constructor
  ·intro e;exact absurd e (by decide)
  ·rintro⟨x,d,a⟩;rw[h x d]at a;cases a
 |some k=>
  obtain⟨b,c,_⟩:=Ri.1 h
  exact⟨fun _=>⟨l[k],KJ b,c⟩,fun _=>Int.natCast_nonneg k⟩
theorem qR{α:Type}{e e':α→List D}{xs:List α}{j sz:Nat}{y:α}(a:j<xs.length)(hl:∀x,(e x).length=sz)(he:∀x,e x=e' x):GD (Ac e xs) (j*sz) ((e' y).map .d) (Ac e (xs.set j y)):=by
 rw[←he];exact um a hl
theorem dC{α:Type}{sz:Nat}{e e':α→List D}{y:α}(C:List AV)(hl:∀x,(e x).length=sz)(he:∀x,e x=e' x):El sz C (.d (.list [e' y])) 1 (Ac e [y]):=by
 rw[r7,he];exact rT C (by rw[←he];exact hl y)
theorem tZ{C:List AV}{o n m sz:Nat}{a:List (List D)}(h:n=m)(k:FI C o m sz a):FI C o n sz a:=h▸k
theorem tJ{α:Type}{e:α→List D}{xs:List α}{n m off sz:Nat}(a:n=m)(h:off≤xs.length)(hl:∀x,(e x).length=sz):n=m∧off*sz≤(Ac e xs).length∧(Ac e xs).drop (off*sz)=Ac e (xs.drop off):=
 ⟨a,by rw[FR hl];exact YU _ h,Lp hl xs off⟩
theorem tA{α:Type}{e:α→List D}{z:α}{c:List AV}(a:(e z).map .d=c)(m:Nat):(List.replicate m c).flatten=Ac e (List.replicate m z):=by
 subst a
 induction m with
 |zero=>rfl
 |succ m b=>rw[Ry,HF,b,Ry,FS]
end Go.Eng
namespace Go.Eng
set_option linter.all false
open Go Go.RowKit
section
variable {P:Program} {T:Nat→Option TI} {n:Nat} {C:Cx} {τ:St} {Q:Exit→St→Prop}
theorem s7(f:CxOk C){os:Nat}{fx:List Nat}(k:C.outs=os)(i:C.fx=fx){c:Code}(a:AT)(lf:Lf)(q:Ren→(St→Prop)→Prop)
  (m:∀r Φ,AR r os a τ (fun τ _=>Dc fx lf τ Φ)=q r Φ) (h:∀r,r.θ=C.θ→r.H0=C.H0→r.κ=C.κ→r.no=C.no→q r (fun τ'=>LW P n C c τ' Q)):LW P n C c τ Q:=by
 subst k
 subst i
 intro γ σ l j
 have e:=h (C.r γ) rfl rfl rfl rfl
 rw[←m]at e
 obtain⟨y,w,x,g,b,d⟩:=BK (n:=n) f a e j
 obtain⟨u,z,v,o,p,s,t⟩:=FO (n:=n) f g l b
 exact Bi.weak (p u v o s) (d.trans t)
end
theorem eG{s:ByteArray}{i:Int}(a:0≤i)(h:i<s.size):G1 s i ((s.data.toList.getD i.toNat 0).toNat:Int):=by
 have:=fs (s:=s) (i:=i.toNat) (by omega)
 rwa [Int.toNat_of_nonneg a]at this
end Go.Eng
