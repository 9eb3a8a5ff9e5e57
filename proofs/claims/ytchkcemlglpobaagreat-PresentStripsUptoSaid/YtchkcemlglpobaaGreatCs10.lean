import Derived.Test.YtchkcemlglpobaaGreatCs09
import Derived.Shelf.Spec.SlicesGrow
import Derived.Test.YtchkcemlglpobaaGreatCs00
namespace Go.Eng
structure Raw where
 num:Int
 wire:Int
 bits:Int
 data:ByteArray
deriving Inhabited,DecidableEq
mutual
inductive Val where
 |mk (kind bits:Int) (text:ByteArray) (list:List Val) (pairs:List Pr) (slots:List Slt) (raws:List Raw)
inductive Pr where
 |mk (key val:Val)
inductive Slt where
 |mk (num:Int) (val:Val)
end
inductive Msk where
 |mk (num:Int) (subs:List Msk)
instance:Inhabited Val:=⟨.mk 0 0 .empty [] [] [] []⟩
instance:Inhabited Pr:=⟨.mk default default⟩
instance:Inhabited Slt:=⟨.mk 0 default⟩
instance:Inhabited Msk:=⟨.mk 0 []⟩
def Val.kind:Val→Int|.mk k _ _ _ _ _ _=>k
def Val.bits:Val→Int|.mk _ b _ _ _ _ _=>b
def Val.text:Val→ByteArray|.mk _ _ t _ _ _ _=>t
def Val.list:Val→List Val|.mk _ _ _ l _ _ _=>l
def Val.pairs:Val→List Pr|.mk _ _ _ _ p _ _=>p
def Val.slots:Val→List Slt|.mk _ _ _ _ _ s _=>s
def Val.raws:Val→List Raw|.mk _ _ _ _ _ _ r=>r
def Pr.key:Pr→Val|.mk k _=>k
def Pr.val:Pr→Val|.mk _ v=>v
def Slt.num:Slt→Int|.mk n _=>n
def Slt.val:Slt→Val|.mk _ v=>v
def Msk.num:Msk→Int|.mk n _=>n
def Msk.subs:Msk→List Msk|.mk _ s=>s
def AB(s:ByteArray):List D:=[.str s]
def qT(s:Int):List D:=[.int .i64 s]
def AP(s:Bool):List D:=[.bool s]
def Az(x:Raw):List D:=[.int .i64 x.num,.int .i64 x.wire,.int .u64 x.bits,.str x.data]
mutual
def Aq:Val→List D
 |.mk k b t l p s r=>[.int .i64 k,.int .u64 b,.str t,.list (RV l),.list (Of p),.list (Sd s),.list (r.map Az)]
def RV:List Val→List (List D)
 |[]=>[]
 |v::vs=>Aq v::RV vs
def Au:Pr→List D
 |.mk k v=>Aq k++Aq v
def Of:List Pr→List (List D)
 |[]=>[]
 |v::vs=>Au v::Of vs
def Aj:Slt→List D
 |.mk n v=>.int .i64 n::Aq v
def Sd:List Slt→List (List D)
 |[]=>[]
 |v::vs=>Aj v::Sd vs
end
mutual
def Lq:Msk→List D
 |.mk n s=>[.int .i64 n,.list (Rs s)]
def Rs:List Msk→List (List D)
 |[]=>[]
 |v::vs=>Lq v::Rs vs
end
theorem Zrr(l:List Val):RV l=l.map Aq:=by induction l with|nil=>rfl|cons v l a=>simp[RV,a]
theorem Zvb(l:List Pr):Of l=l.map Au:=by induction l with|nil=>rfl|cons v l a=>simp[Of,a]
theorem Zut(l:List Slt):Sd l=l.map Aj:=by induction l with|nil=>rfl|cons v l a=>simp[Sd,a]
theorem Zpx(l:List Msk):Rs l=l.map Lq:=by induction l with|nil=>rfl|cons v l a=>simp[Rs,a]
def Ag(x:Val):List D:=[.int .i64 x.kind,.int .u64 x.bits,.str x.text,.list (x.list.map Aq),.list (x.pairs.map Au),.list (x.slots.map Aj),.list (x.raws.map Az)]
def SS(x:Pr):List D:=[.int .i64 x.key.kind,.int .u64 x.key.bits,.str x.key.text,.list (x.key.list.map Aq),.list (x.key.pairs.map Au),.list (x.key.slots.map Aj),.list (x.key.raws.map Az),.int .i64 x.val.kind,.int .u64 x.val.bits,.str x.val.text,.list (x.val.list.map Aq),.list (x.val.pairs.map Au),.list (x.val.slots.map Aj),.list (x.val.raws.map Az)]
def Cz(x:Slt):List D:=[.int .i64 x.num,.int .i64 x.val.kind,.int .u64 x.val.bits,.str x.val.text,.list (x.val.list.map Aq),.list (x.val.pairs.map Au),.list (x.val.slots.map Aj),.list (x.val.raws.map Az)]
def qb(x:Msk):List D:=[.int .i64 x.num,.list (x.subs.map Lq)]
theorem FZ(v:Val):Aq v=Ag v:=by
 cases v;simp[Aq,Ag,Zrr,Zvb,Zut,Val.kind,Val.bits,Val.text,Val.list,Val.pairs,Val.slots,Val.raws]
theorem Ix(v:Pr):Au v=SS v:=by cases v;simp[Au,FZ,Ag,SS,Pr.key,Pr.val]
theorem F0(v:Slt):Aj v=Cz v:=by cases v;simp[Aj,FZ,Ag,Cz,Slt.num,Slt.val]
theorem ZNy(v:Msk):Lq v=qb v:=by cases v;simp[Lq,qb,Zpx,Msk.num,Msk.subs]
structure Typ where
 kind:Int
 name:ByteArray
deriving Inhabited,DecidableEq
def G7(x:Typ):List D:=[.int .i64 x.kind,.str x.name]
structure Nt where
 name:ByteArray
 val:Val
deriving Inhabited
def AJ(x:Nt):List D:=[.str x.name,.int .i64 x.val.kind,.int .u64 x.val.bits,.str x.val.text,.list (x.val.list.map Aq),.list (x.val.pairs.map Au),.list (x.val.slots.map Aj),.list (x.val.raws.map Az)]
structure Fld where
 num:Int
 name:ByteArray
 card:Int
 key:Int
 type:Typ
 union:ByteArray
 hasDefault:Bool
 dflt:Val
 notes:List Nt
deriving Inhabited
def Ap(x:Fld):List D:=[.int .i64 x.num,.str x.name,.int .i64 x.card,.int .i64 x.key,.int .i64 x.type.kind,.str x.type.name,.str x.union,.bool x.hasDefault,.int .i64 x.dflt.kind,.int .u64 x.dflt.bits,.str x.dflt.text,.list (x.dflt.list.map Aq),.list (x.dflt.pairs.map Au),.list (x.dflt.slots.map Aj),.list (x.dflt.raws.map Az),.list (x.notes.map AJ)]
structure Spn where
 lo:Int
 hi:Int
deriving Inhabited,DecidableEq
def AY(x:Spn):List D:=[.int .i64 x.lo,.int .i64 x.hi]
structure By where
 b:UInt8
deriving Inhabited,DecidableEq
def By.v(x:By):Int:=x.b.toNat
def eBy(x:By):List D:=[.int .u8 x.v]
structure Msg where
 name:ByteArray
 fields:List Fld
 reserved:List Spn
 gone:List ByteArray
 notes:List Nt
deriving Inhabited
def AA(x:Msg):List D:=[.str x.name,.list (x.fields.map Ap),.list (x.reserved.map AY),.list (x.gone.map AB),.list (x.notes.map AJ)]
structure Itm where
 name:ByteArray
 num:Int
 notes:List Nt
deriving Inhabited
def EW(x:Itm):List D:=[.str x.name,.int .i64 x.num,.list (x.notes.map AJ)]
structure Enm where
 name:ByteArray
 opn:Bool
 items:List Itm
 reserved:List Spn
 notes:List Nt
deriving Inhabited
def AO(x:Enm):List D:=[.str x.name,.bool x.opn,.list (x.items.map EW),.list (x.reserved.map AY),.list (x.notes.map AJ)]
structure Mth where
 name:ByteArray
 inn:ByteArray
 out:ByteArray
 shape:Int
 notes:List Nt
deriving Inhabited
def FA(x:Mth):List D:=[.str x.name,.str x.inn,.str x.out,.int .i64 x.shape,.list (x.notes.map AJ)]
structure Svc where
 name:ByteArray
 methods:List Mth
 notes:List Nt
deriving Inhabited
def AU(x:Svc):List D:=[.str x.name,.list (x.methods.map FA),.list (x.notes.map AJ)]
structure Scm where
 messages:List Msg
 enums:List Enm
 services:List Svc
deriving Inhabited
def AF(x:Scm):List D:=[.list (x.messages.map AA),.list (x.enums.map AO),.list (x.services.map AU)]
structure Fil where
 name:ByteArray
 space:ByteArray
 imports:List ByteArray
 messages:List Msg
 enums:List Enm
 services:List Svc
deriving Inhabited
def ZTl(x:Fil):List D:=[.str x.name,.str x.space,.list (x.imports.map AB),.list (x.messages.map AA),.list (x.enums.map AO),.list (x.services.map AU)]
structure Prb where
 dfn:ByteArray
 num:Int
 err:Int
deriving Inhabited,DecidableEq
def Aw(x:Prb):List D:=[.str x.dfn,.int .i64 x.num,.int .i64 x.err]
structure Stp where
 num:Int
 pos:Int
 hasKey:Bool
 key:Val
deriving Inhabited
structure Edt where
 path:List Stp
 kind:Int
 val:Val
deriving Inhabited
class Mv (V:Type) where
 q:Bool
 e:V→List D
 z:V
def A2{V:Type}[Mv V](p:ByteArray×V):List D:=.str p.1::Mv.e p.2
instance:Mv Bool:=⟨false,AP,false⟩
instance:Mv Int:=⟨false,qT,0⟩
instance:Mv Msg:=⟨true,AA,⟨⟨#[]⟩,[],[],[],[]⟩⟩
instance:Mv (List Int):=⟨false,fun x=>[.list (x.map qT)],[]⟩
instance (V:Type) [Mv V]:Mv (List (ByteArray×V)):=⟨false,fun m=>[.map (Mv.q V) (m.map A2)],[]⟩
structure Web where
 messages:List (ByteArray×Msg)
 enums:List (ByteArray×Bool)
deriving Inhabited
def HX(x:Web):List D:=[.map true (x.messages.map A2),.map false (x.enums.map A2)]
structure Lst where
 dfn:ByteArray
 l:List Prb
deriving Inhabited
structure Acs where
 m:Msg
 s:Scm
deriving Inhabited
def Gj(x:Acs):List D:=[.str x.m.name,.list (x.m.fields.map Ap),.list (x.m.reserved.map AY),.list (x.m.gone.map AB),.list (x.m.notes.map AJ),.list (x.s.messages.map AA),.list (x.s.enums.map AO),.list (x.s.services.map AU)]
structure Lnk where
 files:List Fil
 f:Fil
 known:List ByteArray
 messages:List ByteArray
 enums:List Enm
deriving Inhabited
def ZSG:Raw:=⟨0,0,0,⟨#[]⟩⟩
def Jr:Val:=.mk 0 0 ⟨#[]⟩ [] [] [] []
def zPr:Pr:=.mk Jr Jr
def ZSc:Slt:=.mk 0 Jr
def ZTj:Msk:=.mk 0 []
def ZRD:Typ:=⟨0,⟨#[]⟩⟩
def zNt:Nt:=⟨⟨#[]⟩,Jr⟩
def ZRL:Fld:=⟨0,⟨#[]⟩,0,0,ZRD,⟨#[]⟩,false,Jr,[]⟩
def ZRT:Spn:=⟨0,0⟩
def zBy:By:=⟨0⟩
def ZSA:Msg:=⟨⟨#[]⟩,[],[],[],[]⟩
def ZRS:Itm:=⟨⟨#[]⟩,0,[]⟩
def ZSw:Enm:=⟨⟨#[]⟩,false,[],[],[]⟩
def ZRZ:Mth:=⟨⟨#[]⟩,⟨#[]⟩,⟨#[]⟩,0,[]⟩
def ZSO:Svc:=⟨⟨#[]⟩,[],[]⟩
def ZTk:Fil:=⟨⟨#[]⟩,⟨#[]⟩,[],[],[],[]⟩
def ZSr:Prb:=⟨⟨#[]⟩,0,0⟩
end Go.Eng
namespace Go.Eng
set_option linter.all false
open Go Go.RowKit
def Gq:List Nat→Code→Code
 |[],c=>c
 |0::p,.seq a _=>Gq p a
 |_::p,.seq _ b=>Gq p b
 |0::p,.cond _ a _=>Gq p a
 |_::p,.cond _ _ b=>Gq p b
 |_::p,.block _ c=>Gq p c
 |_::p,.loop c=>Gq p c
 |_::p,.scope c=>Gq p c
 |_,c=>c
def AD(f:Func):Code:=f.body.getD .skip
def Af{α:Type}(e:α→List D)(xs:List α):List AV:=((xs.map e).flatten).map .d
theorem A1{α:Type}(e:α→List D)(xs:List α):ET (Af e xs):=fun x a=>by
 obtain⟨d,_,rfl⟩:=Yy.1 a;rfl
theorem CY{α:Type}{e:α→List D}{sz:Nat}(he:∀x,(e x).length=sz)(xs:List α):(Af e xs).length=xs.length*sz:=by
 unfold Af
 induction xs with
 |nil=>simp
 |cons x xs a=>simp only[Yp,YS,HK,Yo,he,YV,YH]at a⊢;omega
theorem JK{α:Type}(e:α→List D)(xs ys:List α):Af e (xs++ys)=Af e xs++Af e ys:=by simp[Af]
section
variable {P:Program} {n:Nat} {C:Cx} {τ:St} {Q:Exit→St→Prop}
theorem Zue{c:Code}(id:Nat)(x:Code)(b:c=.block id x)(h:LW P n C x τ (fun e τ'=>match e with|.exit i=>(match Nat.beq i id with|true=>Q .normal τ'|false=>Q (.exit i) τ')|e=>Q e τ')):LW P n C c τ Q:=b▸Zxg (h.mono fun e τ' a=>by
 cases e with
 |exit i=>
  simp only at a⊢
  split at a
  ·rename_i he;rw[if_pos (Ya he)];exact a
  ·rename_i he;rw[if_neg (by rintro rfl;simp at he)];exact a
 |_=>exact a)
end
theorem sT{P:Program}{T:Nat→Option TI}{n:Nat}{f:FuncId}{fn:Func}(e:List ResultVar)(c:Code){l:Nat}{xs:List AV}{H:Hp}{a:AV→Hp→Prop}(θ:Nat→AV)(ys:List AV)
  (j:P.funcs[f]?=some fn) (hb:fn.body=some c) (b:(fn.name== "runtime.NumGoroutine")=false) (o:fn.ntmps=n) (r:fn.results.toList=e) (s:xs.length≤n) (g:A9 P T)
  (d:An ⟨fun k=>(l+1,k.2),fun _=>0,θ,H,fun _=>False⟩ ys=xs) (h:∀B:Base,LW P n (SR l θ H B) c (Ab (C5 0 ys) []) (FQ T e 0 (fun y _=>a y H))):Zct P f l xs H a:=
 tF e (SR l θ H) (γ:=fun _=>0) (LPost:=fun y _=>a y H) j hb b o r s g (fun B=>ai l B θ H) (fun B=>⟨rfl,rfl,rfl,trivial⟩) (fun B=>d) (fun _=>rfl) (fun _=>rfl) (fun B k m=>by simp[AH,D5]at m) (fun B i hi=>absurd hi (IX _))
  (fun B γ y u t _ q p hy=>by rw[hy rfl,ZwM p];exact q) h
theorem ZFm{α:Type}(e:α→List D)(xs:List α):Bt ((xs.map e).length:Nat) xs.length:=by simp[Bt]
theorem u0{α:Type}{e e':α→List D}{xs:List α}{i:Nat}{x:α}(a:xs[i]?=some x)(he:∀x,e x=e' x):He (xs.map e) (i:Nat) (e' x):=⟨by omega,by simp[a,he]⟩
theorem y9{α:Type}{e e':α→List D}{xs:List α}{i:Nat}{z:α}(hi:i<xs.length)(he:∀x,e x=e' x):He (xs.map e) (i:Nat) (e' (xs.getD i z)):=by
 refine u0 ?_ he
 grind
theorem vJ{a r:Int}(h:a=r)(b: -9223372036854775808≤r)(c:r<9223372036854775808):B6 .i64 a r:=by
 subst h;exact IntWalk.i64_in _ ⟨b,by omega⟩
theorem ZNn{i len sz:Nat}(h:i<len):Ji (i:Nat) len 0 sz (i*sz):=⟨by omega,by omega,by simp⟩
theorem Zwq{sz:Nat}{e:List D}(C:List AV)(he:e.length=sz):D4 sz C (.d (.list [e])) 1 (e.map .d):=by
 refine⟨Yk.2 fun x a=>?_,fun q b=>?_,rfl,by simp⟩
 ·obtain⟨d,_,rfl⟩:=Yy.1 a;rfl
 grind
theorem s7{α:Type}{sz:Nat}{e:α→List D}(C:List AV)(xs:List α)(he:∀x,(e x).length=sz):D4 sz C (.d (.list (xs.map e))) xs.length (Af e xs):=by
 refine⟨Yk.2 fun x a=>?_,fun q b=>?_,by simp,rfl⟩
 ·obtain⟨d,_,rfl⟩:=Yy.1 a;rfl
 grind
theorem ZuR{α:Type}{sz:Nat}{e:α→List D}(k:Ac)(g:Nat)(xs:List α)(he:∀x,(e x).length=sz):D4 sz (Af e xs) (.ref k g 0 xs.length) xs.length (Af e xs):=by
 refine⟨Yk.2 fun x a=>?_,rfl,by rw[CY he];simp,by rw[FS,NC,←CY he xs,K5]⟩
 obtain⟨d,_,rfl⟩:=Yy.1 a;rfl
theorem Zxt{α:Type}{sz byt:Nat}{e:α→List D}(xs ys:List α){a:Nat}(he:∀x,(e x).length=sz)(b:xs.length+ys.length=a)(hb:a*byt≤140737488355328):
  Jo (Af e xs) 0 xs.length ys.length sz byt (Af e ys) (Af e (xs++ys)) a:=
 ⟨by rw[CY he,YD],by rw[FS,NC,JK],b,hb⟩
theorem Zxx{α:Type}(e:α→List D)(x:α):Af e [x]=(e x).map .d:=by simp[Af]
theorem uI{α:Type}{sz:Nat}{e:α→List D}(xs:List α)(b:sz≠0)(he:∀x,(e x).length=sz):GC (Af e xs) 0 xs.length sz (xs.map e):=
 ⟨by simp,b,fun q a=>by obtain⟨x,_,rfl⟩:=Yy.1 a;exact he x,by rw[CY he];simp,by rw[FS,NC,←CY he xs,K5];rfl⟩
theorem tS{α:Type}{e e':α→List D}{xs:List α}{i:Int}{z:α}(a:0≤i)(hi:i<xs.length)(he:∀x,e x=e' x):He (xs.map e) i (e' (xs.getD i.toNat z)):=by
 have h:=y9 (e:=e) (e':=e') (xs:=xs) (i:=i.toNat) (z:=z) (by omega) he
 grind
theorem ZNb(s:ByteArray):s.data.toList.length=s.size:=by simp
theorem ZDf{s:ByteArray}{i:Nat}{x:UInt8}(h:s.data.toList[i]?=some x):Hg s (i:Nat) (x.toNat:Nat):=⟨by omega,x,by simpa using h,rfl⟩
theorem uS{s:ByteArray}{i:Nat}(h:i<s.size):Hg s (i:Nat) ((s.data.toList.getD i 0).toNat:Nat):=by
 refine ZDf ?_
 rw[Yz,Yb (by rw[ZNb];exact h)];rfl
theorem az{α:Type}{sz byt c:Nat}{e:α→List D}{news:List AV}(xs ys:List α)(he:∀x,(e x).length=sz)(a:ys.length=c)(b:news=Af e ys)(hb:(xs.length+ys.length)*byt≤140737488355328):
  Jo (Af e xs) 0 xs.length c sz byt news (Af e (xs++ys)) (xs++ys).length:=by
 subst a;subst b
 exact Zxt xs ys he (by rw[Yo]) (by rw[Yo];exact hb)
section
variable {P:Program} {l:Nat} {r:Ren} {f:FuncId} {xs xs':List AV} {hb:List (Ac×Blk)} {x x':AV}
def CK(P:Program)(l:Nat)(no:Ac→Prop)(H:Hp)(c:AV)(g:List AV)(y:AV):Prop:=
 ∃f first a,c=.fn (.func f) first a∧∀e b,l≤e→(∀k:Ac,k.1≤l→¬no k→b k=H k)→Zct P f e (first++g++a) b (fun h d=>h=y∧d=b)
theorem ZvG{i:Nat}{c:AV}(j:r.θ i=c)(h:CK P l r.no r.H0 c xs' x')(d:An r xs=xs')(e:ren r x=x'):MQ P l r i xs hb x:=by
 obtain⟨f,first,a,rfl,h⟩:=h
 exact⟨f,first,a,j,fun b _ g=>by rw[d,e];exact h (l+1) b (Nat.le_succ l) g⟩
end
section
variable {P:Program} {T:Nat→Option TI} {n:Nat} {C:Cx} {τ:St} {Q:Exit→St→Prop}
theorem zL(g:CxOk C)(k:A9 P T)(hm:P.follows .mixedOrders=true){os:Nat}{fx:List Nat}(d:C.outs=os)(i:C.fx=fx){c:Code}(a:AT)(lf e:Lf)(f:List ResultVar){b:AV→List Blk→Prop}(q:Ren→(Exit→St→Prop)→(AV→List Blk→Prop)→Prop)
  (l:∀r Q b,Co P T C.l n os r c a τ (KB T f os fx r b lf e Q)=q r Q b) (j:∀τ,FQ T f os b .ret τ→Q .ret τ) (h:∀r,r.θ=C.θ→r.H0=C.H0→r.κ=C.κ→r.no=C.no→q r Q b):LW P n C c τ Q:=
 ZHG g k hm a lf e (by rw[d];exact j) (fun γ=>by rw[d,i,l];exact h _ rfl rfl rfl rfl)
theorem z6(e:CxOk C)(g:A9 P T)(hm:P.follows .mixedOrders=true){os:Nat}(f:C.outs=os){c:Code}(a:AT)(d:List ResultVar){b:AV→List Blk→Prop}(q:Ren→(AV→List Blk→Prop)→Prop)
  (i:∀r b,Co P T C.l n os r c a τ (KF T d os b)=q r b) (h:∀r,r.θ=C.θ→r.H0=C.H0→r.κ=C.κ→r.no=C.no→q r b):LW P n C c τ (FQ T d os b):=by
 subst f
 exact ZGG e g hm a (fun γ=>by rw[i];exact h _ rfl rfl rfl rfl)
mutual
theorem Zu8{H:Hp}:∀(x:AV) {a:AT} {K c:AV→AT→Prop},(∀y a,K y a→c y a)→frz H x a K→frz H x a c
 |.d x,a,K,c,b,h=>b _ _ h
 |.e0,a,K,c,b,h=>b _ _ h
 |.agg xs,a,K,c,b,h=>tp xs (fun ys a h=>b _ _ h) h
 |.ref k g off m,a,K,c,b,h=>by
  unfold frz at h⊢
  grind
 |.top,a,K,c,b,h=>by simp only[frz]at h
 |.p _,a,K,c,b,h=>by simp only[frz]at h
 |.ptr _ _ _,a,K,c,b,h=>by simp only[frz]at h
 |.mp k g,a,K,c,b,h=>by
  unfold frz at h⊢
  grind
 |.iptr _ _,a,K,c,b,h=>by simp only[frz]at h
 |.ifc _ _ _,a,K,c,b,h=>b _ _ h
 |.fn _ _ _,a,K,c,b,h=>by simp only[frz]at h
 |.tup _,a,K,c,b,h=>by simp only[frz]at h
theorem tp{H:Hp}:∀(xs:List AV) {a:AT} {K b:List AV→AT→Prop},(∀y a,K y a→b y a)→Ha H xs a K→Ha H xs a b
 |[],a,K,b,c,h=>c _ _ h
 |x::xs,a,K,b,c,h=>by
  simp only[Ha]at h⊢
  exact Zu8 x (fun y a h=>tp xs (fun ys a h=>c _ _ h) h) h
end
end
theorem Fk{α:Type}(e:α→List D)(x:α)(xs:List α):Af e (x::xs)=(e x).map .d++Af e xs:=by simp[Af]
theorem JE{α:Type}{e:α→List D}{sz:Nat}(hl:∀x,(e x).length=sz):∀(xs:List α) (j:Nat),(Af e xs).drop (j*sz)=Af e (xs.drop j)
 |[],j=>by simp[Af]
 |x::xs,0=>by simp
 |x::xs,j+1=>by
  have a:((e x).map AV.d).length=sz:=by rw[Yp,hl]
  rw[Fk,YH,IZ,KY,←K7,List.drop_left' a,JE hl xs j]
  rfl
theorem PN{α:Type}{e:α→List D}{sz:Nat}(hl:∀x,(e x).length=sz):∀(xs:List α) (j:Nat),(Af e xs).take (j*sz)=Af e (xs.take j)
 |[],j=>by simp[Af]
 |x::xs,0=>by simp[Af]
 |x::xs,j+1=>by
  have a:((e x).map AV.d).length=sz:=by rw[Yp,hl]
  rw[Fk,List.take_succ_cons,Fk,YH,IZ,KY,List.take_append,a,Nat.add_sub_cancel_left,PN hl xs j,Tz (by omega)]
theorem uL{α:Type}{xs:List α}{j:Nat}{z:α}(a:j<xs.length):xs.drop j=xs.getD j z::xs.drop (j+1):=by
 rw[Y9 a,Yz,Yb a];rfl
theorem sp{α:Type}{e e':α→List D}{xs:List α}{j sz:Nat}{z:α}(a:j<xs.length)(hl:∀x,(e x).length=sz)(he:∀x,e x=e' x):Dk (Af e xs) (j*sz) ((e' (xs.getD j z)).map .d):=by
 unfold Dk
 rw[JE hl,uL (z:=z) a,Fk,he,List.take_left]
theorem Zke{α:Type}{e e':α→List D}{xs:List α}{j sz o:Nat}{z:α}{c:List AV}(b:j<xs.length)(hl:∀x,(e x).length=sz)(he:∀x,e x=e' x)
  (a:(((e' (xs.getD j z)).map .d).drop o).take c.length=c) (f:o+c.length≤sz):Dk (Af e xs) (j*sz+o) c:=by
 unfold Dk
 have d:((e' (xs.getD j z)).map AV.d).length=sz:=by rw[Yp,←he,hl]
 rw[←K7,JE hl,uL (z:=z) b,Fk,he,jB (by omega),Tv (by rw[YK];omega),a]
theorem yE{α:Type}{e:α→List D}{xs:List α}{j sz:Nat}{y:α}(b:j<xs.length)(hl:∀x,(e x).length=sz):GH (Af e xs) (j*sz) ((e y).map .d) (Af e (xs.set j y)):=by
 have a:((e y).map AV.d).length=sz:=by rw[Yp,hl]
 have c:(j+1)*sz≤xs.length*sz:=YG _ b
 rw[YH,IZ]at c
 refine⟨by rw[a,CY hl];omega,?_⟩
 rw[a,PN hl,show j*sz+sz=(j+1)*sz from by rw[YH,IZ],JE hl,jC,if_pos b,JK,Fk,Y2]
def Cy(r:Ren):List (Ac×Blk)→Hp→Hp
 |[],H=>H
 |(k,b)::rest,H=>Cy r rest (updH H (r.κ k) (AK r k b))
def Ga(P:Program)(l:Nat)(r:Ren)(f:FuncId)(xs:List AV)(d:List (Ac×Blk))(x:AV)(Ar:List (Ac×Blk))(fr:List Ac):Prop:=
 ∀a,(∀p∈d,(a (r.κ p.1)).g=r.γ p.1+p.2.g∧(p.2.live=true→a (r.κ p.1)=AK r p.1 p.2))→(∀k:Ac,k.1≤l→¬r.no k→a k=r.H0 k)→
  Zct P f (l+1) (An r xs) a (fun y b=>∃c:Ac→Nat,(∀k,k∉fr→c k=r.γ k)∧y=ren ⟨r.κ,c,r.θ,r.H0,r.no⟩ x∧b=Cy ⟨r.κ,c,r.θ,r.H0,r.no⟩ Ar a)
mutual
def Fp(fr:List Ac):AV→Bool
 |.ref k _ _ _=>fr.any (Bs k)
 |.ptr k _ _=>fr.any (Bs k)
 |.mp k _=>fr.any (Bs k)
 |.fn _ xs ys=>F1 fr xs||F1 fr ys
 |.agg xs=>F1 fr xs
 |.tup xs=>F1 fr xs
 |.top=>false
 |.d _=>false
 |.e0=>false
 |.p _=>false
 |.iptr _ _=>false
 |.ifc _ _ _=>false
def F1(fr:List Ac):List AV→Bool
 |[]=>false
 |x::xs=>Fp fr x||F1 fr xs
end
def Dl(fr:List Ac):List (Nat×AV)→List (Nat×AV)
 |[]=>[]
 |(j,x)::r=>(j,match Fp fr x with|true=>.top|false=>x)::Dl fr r
def Cp(ks fr fl:List Ac):List (Ac×Blk)→List (Ac×Blk)
 |[]=>[]
 |(k,b)::r=>match ks.any (Bs k),fl.any (Bs k)||!F1 fr b.cells with
  |false,true=>(k,b)::Cp ks fr fl r
  |_,_=>Cp (k::ks) fr fl r
def FD:Option Nat→AV→List (Nat×AV)→List (Nat×AV)
 |some d,x,r=>(d,x)::r
 |none,_,r=>r
def Bx(os:Nat)(k:Ac):Bool:=Nat.beq k.1 1||(Nat.beq k.1 0&&Nat.ble (k.2+1) os)
def CU(os:Nat):List (Ac×Blk)→Bool
 |[]=>true
 |(k,b)::r=>Bx os k&&b.live&&!(r.any fun p=>Bs k p.1)&&CU os r
mutual
theorem sO{r:Ren}{b:Ac→Nat}{fr:List Ac}(a:∀k,k∉fr→b k=r.γ k):∀(x:AV),Fp fr x=false→ren ⟨r.κ,b,r.θ,r.H0,r.no⟩ x=ren r x
 |.ref k g off n,h=>by simp only[Fp]at h;simp only[ren];rw[a k (Qa h)]
 |.ptr k g off,h=>by simp only[Fp]at h;simp only[ren];rw[a k (Qa h)]
 |.mp k g,h=>by simp only[Fp]at h;simp only[ren];rw[a k (Qa h)]
 |.fn f xs ys,h=>by
  simp only[Fp,Bool.or_eq_false_iff]at h
  have c:=Jz a xs h.1
  have d:=Jz a ys h.2
  cases f<;>simp only[ren,c,d]
 |.agg xs,h=>by simp only[Fp]at h;simp only[ren,Jz a xs h]
 |.tup xs,h=>by simp only[Fp]at h;simp only[ren,Jz a xs h]
 |.top,_=>by simp[ren]
 |.d _,_=>by simp[ren]
 |.e0,_=>by simp[ren]
 |.p _,_=>by simp[ren]
 |.iptr _ _,_=>by simp[ren]
 |.ifc _ _ _,_=>by simp[ren]
theorem Jz{r:Ren}{b:Ac→Nat}{fr:List Ac}(a:∀k,k∉fr→b k=r.γ k):∀(xs:List AV),F1 fr xs=false→An ⟨r.κ,b,r.θ,r.H0,r.no⟩ xs=An r xs
 |[],_=>by simp[An]
 |x::xs,h=>by
  simp only[F1,Bool.or_eq_false_iff]at h
  simp only[An,sO a x h.1,Jz a xs h.2]
theorem Qa{k:Ac}{fr:List Ac}(h:fr.any (Bs k)=false):k∉fr:=fun hm=>by
 have:fr.any (Bs k)=true:=YL.2 ⟨k,hm,B4.2 rfl⟩
 grind
end
def B1:Code→Array Oper
 |.region _ ops _=>ops
 |_=>#[]
def nj:Code→Bool
 |.region _ _ false=>true
 |_=>false
def GY{α:Type}:Nat→List α→List α
 |0,l=>l
 |_+1,[]=>[]
 |n+1,_::l=>GY n l
def G4{α:Type}:Nat→List α→List α
 |0,_=>[]
 |_+1,[]=>[]
 |n+1,x::l=>x::G4 n l
theorem aN{α:Type}:∀(n:Nat) (l:List α),GY n l=l.drop n
 |0,l=>rfl
 |n+1,[]=>rfl
 |n+1,x::l=>aN n l
theorem PS{α:Type}:∀(n:Nat) (l:List α),G4 n l=l.take n
 |0,l=>rfl
 |n+1,[]=>rfl
 |n+1,x::l=>by rw[G4,PS n l];rfl
def LO(P:Program)(n:Nat)(C:Cx)(c:Code)(k:Nat)(τ:St)(Q:Exit→St→Prop):Prop:=
 ∀γ σ a w,C.G γ→RG (C.r γ) C.l C.outs [] τ σ→R C.l n C.B σ a w→wpList P (B1 c) (fun e d w'=>∃b,Is n C (Q e) b∧R C.l n C.B b d w') ((B1 c).toList.drop k) a w
def Fo(c:Code)(k:Nat):Option (Option Nat×Operand×List Operand):=
 match Bj (B1 c).toList k with
 |some o=>(match o.guard,o.op with
  |none,.call cl=>(match cl.callee with|.value f=>some (o.dst,f,cl.args.toList)|_=>none)
  |_,_=>none)
 |none=>none
def Eb(C:Cx):List (Ac×Blk)→Prop
 |[]=>True
 |(k,_)::r=>match Nat.beq k.1 1 with|true=>Eb C r|false=>C.no (C.κ k)∧Eb C r
def Hw(H:Hp):List Ac→Prop
 |[]=>True
 |k::r=>ET (H k).cells∧Hw H r
def Jh(fr:List Ac)(Ar:List (Ac×Blk)):Bool:=fr.all fun k=>Ar.any fun p=>Bs k p.1
def JV(fr:List Ac)(fx:List Nat):Bool:=fr.all fun k=>!(Nat.beq k.1 0&&fx.any (Nat.beq k.2))
def F7:List (Ac×Blk)→Bool
 |[]=>true
 |(_,b)::r=>Nat.beq b.g 0&&F7 r
def pA:Option Nat→(Nat→AV)→AV→Nat→AV
 |some d,s,v=>upd s d v
 |none,s,_=>s
def Kc(n:Nat):Option Nat→Bool
 |some d=>Nat.ble (d+1) n
 |none=>true
section
variable {P:Program} {T:Nat→Option TI} {n:Nat} {C:Cx} {τ:St} {Q:Exit→St→Prop}
theorem ZnW{c:Code}(b:nj c=true)(h:LO P n C c 0 τ Q):LW P n C c τ Q:=by
 cases c with
 |region id ops d=>
  cases d with
  |true=>cases b
  |false=>
   obtain⟨i,rfl⟩:∃l:List Oper,ops=l.toArray:=⟨ops.toList,by simp⟩
   intro γ σ g e a w f
   have:=h γ σ a w g e f
   simp only[B1,NC]at this
   exact wp_region_lit this
 |_=>cases b
theorem ZIl(d:CxOk C)(A:A9 P T){os:Nat}{fx:List Nat}(y:C.outs=os)(v:C.fx=fx){c:Code}{k:Nat}(m:Nat)(a:AT)(lf:Lf)(q:Ren→(St→Prop)→Prop)
  (E:∀r Φ,Bg r os a τ (fun τ a=>FC P T C.l n r ((B1 c).toList.map (·.dst)) (G4 m (GY k (B1 c).toList)) [] a (fun τ' env f=>Bg r os f (Do env τ') (fun τ _=>Em fx lf τ Φ)) τ)=q r Φ)
  (h:∀r,r.θ=C.θ→r.H0=C.H0→r.κ=C.κ→r.no=C.no→q r (fun τ'=>LO P n C c (k+m) τ' Q)):LO P n C c k τ Q:=by
 subst y
 subst v
 intro γ σ g w D x z
 have o:=h (C.r γ) rfl rfl rfl rfl
 rw[←E]at o
 obtain⟨R,p,N,u,i,j⟩:=BW (n:=n) d a o x
 have e:(B1 c).toList.drop k=G4 m (GY k (B1 c).toList)++(B1 c).toList.drop (k+m):=by
  rw[PS,aN,←K7,Y1]
 rw[e]
 refine JC (d.ren γ) A (B:=C.B) _ (fun τ' l f U b w' J K L=>?_) _ [] p R N g w u i (j _ _ z)
 obtain⟨V,s,t⟩:=L5 (n:=n) K
 obtain⟨X,S,W,f1,f2,f3⟩:=BW (n:=n) d f J s
 obtain⟨M,Y,O,F,G,H,I⟩:=FV (n:=n) d f1 D f2
 exact G M O b w' F H (I _ _ (f3 _ _ (t _ _ L)))
theorem ZJ6(b:CxOk C)(A:A9 P T){os:Nat}{fx:List Nat}(y:C.outs=os)(v:C.fx=fx){c:Code}{k:Nat}(a:AT)(lf:Lf)(q:Ren→(Exit→St→Prop)→Prop)
  (E:∀r Φ,Bg r os a τ (fun τ a=>FC P T C.l n r ((B1 c).toList.map (·.dst)) (GY k (B1 c).toList) [] a (fun τ' env d=>Bg r os d (Do env τ') (fun τ _=>Em fx lf τ (Φ .normal))) τ)=q r Φ)
  (h:∀r,r.θ=C.θ→r.H0=C.H0→r.κ=C.κ→r.no=C.no→q r Q):LO P n C c k τ Q:=by
 subst y
 subst v
 intro γ σ f w D x z
 have m:=h (C.r γ) rfl rfl rfl rfl
 rw[←E]at m
 obtain⟨O,p,N,u,g,i⟩:=BW (n:=n) b a m x
 have e:(B1 c).toList.drop k=GY k (B1 c).toList++[]:=by rw[aN,HP]
 rw[e]
 refine JC (b.ren γ) A (B:=C.B) _ (fun τ' l d U j w' J K L=>?_) _ [] p O N f w u g (i _ _ z)
 obtain⟨V,s,t⟩:=L5 (n:=n) K
 obtain⟨X,S,W,f1,f2,f3⟩:=BW (n:=n) b d J s
 obtain⟨M,R,o,F,G,H,I⟩:=FV (n:=n) b f1 D f2
 unfold wpList
 exact⟨o,⟨M,R,o,F,G,H,Wk.refl _⟩,I _ _ (f3 _ _ (t _ _ L))⟩
theorem PR:∀{hs:List (Ac×Blk)},F7 hs=true→∀k,(AH hs k).g=0
 |[],_,k=>rfl
 |(k',b)::r,h,k=>by
  simp only[F7,Bool.and_eq_true]at h
  simp only[AH]
  split
  ·exact Ya h.1
  ·exact PR h.2 k
theorem uj{k:Ac}{ks:List Ac}:ks.any (Bs k)=true↔k∈ks:=by
 rw[YL]
 exact⟨fun⟨q,a,b⟩=>by rw[B4.1 b];exact a,fun h=>⟨k,h,B4.2 rfl⟩⟩
theorem zT(a b:List (Ac×Blk))(k:Ac):AH (a++b) k=if k∈a.map (·.1)then AH a k else AH b k:=by
 induction a with
 |nil=>simp
 |cons p a f=>
  obtain⟨q,d⟩:=p
  simp only[K2,AH,YS,Yw]
  cases c:Bs q k with
  |true=>rw[if_pos (.inl (B4.1 c).symm)]
  |false=>
   have:k≠q:=fun e=>by rw[B4.2 e.symm]at c;cases c
   grind
theorem Mc{fr fl:List Ac}:∀(hs:List (Ac×Blk)) (ks:List Ac) (k:Ac),(k∈ks→AH (Cp ks fr fl hs) k=D5)∧(k∉ks→(AH (Cp ks fr fl hs) k=AH hs k∧(k∈fl∨F1 fr (AH hs k).cells=false))∨AH (Cp ks fr fl hs) k=D5)
 |[],ks,k=>⟨fun _=>rfl,fun _=>.inr rfl⟩
 |(q,b)::r,ks,k=>by
  simp only[Cp]
  split
  ·rename_i d a
   have f:q∉ks:=fun hm=>by rw[uj.2 hm]at d;cases d
   simp only[AH]
   cases c:Bs q k with
   |true=>
    have c:=B4.1 c
    subst c
    refine⟨fun h=>absurd h f,fun _=>.inl ⟨rfl,?_⟩⟩
    simp only[Bool.or_eq_true,Bool.not_eq_true']at a
    rcases a with a|a
    ·exact .inl (uj.1 a)
    grind
   |false=>exact Mc r ks k
  ·obtain⟨d,a⟩:=Mc (fr:=fr) (fl:=fl) r (q::ks) k
   refine⟨fun h=>d (Yu _ h),fun h=>?_⟩
   by_cases c:k=q
   ·grind
   ·rcases a (fun hm=>(Yw.1 hm).elim c h)with⟨i,j⟩|e
    ·have:Bs q k=false:=by
      cases g:Bs q k with
      |true=>exact absurd (B4.1 g).symm c
      |false=>rfl
     simp only[AH,this]
     grind
    grind
theorem PH{r:Ren}:∀(Ar:List (Ac×Blk)) (H:Hp) (q:Ac),(∀p∈Ar,r.κ p.1≠q)→Cy r Ar H q=H q
 |[],H,q,h=>rfl
 |(k,b)::rest,H,q,h=>by
  simp only[Cy]
  rw[PH rest _ q (fun p a=>h p (Yu _ a)),AI _ _ (fun e=>h (k,b) (YC ..) e.symm)]
theorem ul{r:Ren}{os:Nat}(d:∀q k:Ac,Bx os q=true→Bx os k=true→q≠k→r.κ q≠r.κ k):∀(Ar:List (Ac×Blk)) (H:Hp),CU os Ar=true→∀k b,(k,b)∈Ar→Cy r Ar H (r.κ k)=AK r k b∧AH Ar k=b∧Bx os k=true∧b.live=true
 |[],H,_,k,b,hm=>by cases hm
 |(q,c)::rest,H,g,k,b,hm=>by
  simp only[CU,Bool.and_eq_true,Bool.not_eq_true']at g
  obtain⟨⟨⟨i,u⟩,j⟩,m⟩:=g
  have f:∀p∈rest,p.1≠q:=fun p a e=>by
   have:(rest.any fun p=>Bs q p.1)=true:=YL.2 ⟨p,a,B4.2 e.symm⟩
   rw[this]at j;cases j
  have h:∀(l:List (Ac×Blk)),CU os l=true→∀p∈l,Bx os p.1=true:=by
   intro l
   induction l with
   |nil=>intro _ p a;cases a
   |cons p l w=>
    obtain⟨x,y⟩:=p
    intro hl p a
    simp only[CU,Bool.and_eq_true]at hl
    rcases Yw.1 a with rfl|a
    ·exact hl.1.1.1
    ·exact w hl.2 p a
  simp only[Cy]
  rcases Yw.1 hm with e|hm
  ·cases e
   refine⟨?_,by simp only[AH,B4.2 rfl],i,u⟩
   rw[PH rest _ _ (fun p a=>d _ _ (h rest m p a) i (f p a)),AM]
  ·obtain⟨n,o,s,t⟩:=ul d rest (updH H (r.κ q) (AK r q c)) m k b hm
   refine⟨n,?_,s,t⟩
   have:Bs q k=false:=by
    cases v:Bs q k with
    |true=>exact absurd (B4.1 v).symm (f _ hm)
    |false=>rfl
   simp only[AH,this]
   exact o
theorem fq:∀{Ar:List (Ac×Blk)},Eb C Ar→∀p∈Ar,p.1.1≠1→C.no (C.κ p.1)
 |(k,b)::r,h,p,c,a=>by
  simp only[Eb]at h
  split at h
  ·rename_i d
   rcases Yw.1 c with rfl|c
   ·exact absurd (Ya d) a
   ·exact fq h p c a
  ·rcases Yw.1 c with rfl|c
   ·exact h.1
   ·exact fq h.2 p c a
theorem gy{H:Hp}:∀{ks:List Ac},Hw H ks→∀k∈ks,ET (H k).cells
 |q::r,h,k,a=>by
  rcases Yw.1 a with rfl|a
  ·exact h.1
  ·exact gy h.2 k a
theorem EO{os:Nat}{k:Ac}(h:Bx os k=true):k.1=1∨(k.1=0∧k.2<os):=by
 simp only[Bx,Bool.or_eq_true,Bool.and_eq_true]at h
 rcases h with h|⟨a,b⟩
 ·exact .inl (Ya h)
 ·exact .inr ⟨Ya a,Yc b⟩
theorem tT{fr:List Ac}:∀(ss:List (Nat×AV)) (j:Nat),AS (Dl fr ss) j=.top∨(AS (Dl fr ss) j=AS ss j∧Fp fr (AS ss j)=false)
 |[],j=>.inl rfl
 |(i,x)::r,j=>by
  simp only[Dl,AS]
  split
  ·grind
  ·exact tT r j
theorem ZxJ(hC:CxOk C){os:Nat}{fx:List Nat}(hO:C.outs=os)(hF:C.fx=fx){c:Code}{k:Nat}{ss:List (Nat×AV)}{hs:List (Ac×Blk)}(l:Option Nat)(fo:Operand)(aZ:List Operand)(m:Fo c k=some (l,fo,aZ))
  (f:FuncId) (first u xs:List AV) (hf:ev (AS ss) fo=.fn (.func f) first u) (hxs:first++aZ.map (ev (AS ss))++u=xs) (ks:List Ac) (J:List (Ac×Blk)) (hhb:(ks.map fun k=>(k,AH hs k))=J)
  {ι:Type} (I:ι→Prop) (xF:ι→AV) (s:ι→List (Ac×Blk)) (fr fl:List Ac) (M:(JV fr fx&&F7 hs&&Kc n l&&ks.all (Bx os))=true) (t:∀i,(CU os (s i)&&Jh fr (s i))=true) (H:∀i,Eb C (s i)) (hfl:Hw (AH hs) fl)
  (T:∀r:Ren,r.θ=C.θ→r.H0=C.H0→r.κ=C.κ→r.no=C.no→∀V,(∀p∈J,(V (r.κ p.1)).g=r.γ p.1+p.2.g∧(p.2.live=true→V (r.κ p.1)=AK r p.1 p.2))→(∀k:Ac,k.1≤C.l→¬r.no k→V k=r.H0 k)→
   Zct P f (C.l+1) (An r xs) V (fun y W=>∃i,I i∧∃a:Ac→Nat,(∀k,k∉fr→a k=r.γ k)∧y=ren ⟨r.κ,a,r.θ,r.H0,r.no⟩ (xF i)∧W=Cy ⟨r.κ,a,r.θ,r.H0,r.no⟩ (s i) V))
  (h:∀i,I i→LO P n C c (k+1) (Ab (FD l (xF i) (Dl fr ss)) (s i++Cp ((s i).map (·.1)) fr fl hs)) Q):LO P n C c k (Ab ss hs) Q:=by
 subst hO
 subst hF
 simp only[Bool.and_eq_true]at M
 obtain⟨⟨⟨k3,k4⟩,k5⟩,k6⟩:=M
 intro γ σ act w hg z hR
 have hr:=hC.ren γ
 have hs':∀j,σ.s j=ren (C.r γ) (AS ss j):=fun j=>(z.s j).1 A5
 have A:∀y:Operand,ev σ.s y=ren (C.r γ) (ev (AS ss) y):=fun y=>Iy (c:=[]) z A5 (by cases y<;>rfl)
 unfold Fo at m
 split at m
 case h_2=>cases m
 rename_i o ho
 split at m
 case h_2=>cases m
 rename_i cl hgd hopc
 split at m
 case h_2=>cases m
 rename_i fo' hcal
 simp only[Yf,Ff]at m
 obtain⟨hd,rfl,rfl⟩:=m
 rw[BZ]at ho
 have hlt:k<(B1 c).toList.length:=by
  grind
 have U:(B1 c).toList.drop k=o::(B1 c).toList.drop (k+1):=by
  rw[Y9 hlt]
  grind
 rw[U]
 have L:∀q k:Ac,Bx C.outs q=true→Bx C.outs k=true→q≠k→(C.r γ).κ q≠(C.r γ).κ k:=fun q k Z h2 h3=>hr.ne (EO Z) (EO h2) h3
 have hA:=T (C.r γ) rfl rfl rfl rfl σ.H (fun p E=>by
  rw[←hhb]at E
  obtain⟨q,g,rfl⟩:=Yy.1 E
  have hq':=EO (Yk.1 k6 q g)
  refine⟨?_,fun hl=>z.h q hl⟩
  obtain⟨q1,q2⟩:=q
  simp only at hq'
  rcases hq' with rfl|⟨rfl,h2⟩
  ·have:=z.g q2
   rw[←hr.own]at this
   exact this
  ·exact z.go q2 h2) z.o
 have S:An (C.r γ) xs=An (C.r γ) first++cl.args.toList.map (ev σ.s)++An (C.r γ) u:=by
  rw[←hxs,Fj,Fj]
  congr 2
  rw[Eg,EF]
  exact YR fun y _=>(A y).symm
 have hfe:ev σ.s fo'=.fn (.func f) (An (C.r γ) first) (An (C.r γ) u):=by rw[A,hf];simp[ren]
 have hrop:Bp P C.l n o (fun σ'=>∃i,I i∧∃a:Ac→Nat,(∀q,q∉fr→a q=γ q)∧σ'=⟨pA l σ.s (ren (C.r a) (xF i)),Cy (C.r a) (s i) σ.H⟩) σ:=by
  unfold Bp
  rw[hopc]
  simp only[hcal,hfe]
  rw[S]at hA
  refine hA.mono fun y W ⟨i,hi,a,N,e2,e3⟩=>?_
  unfold LK B8
  rw[hd]
  cases l with
  |none=>exact⟨i,hi,a,N,by rw[e3];rfl⟩
  |some d=>exact⟨Yc k5,i,hi,a,N,by rw[e2,e3];rfl⟩
 refine ZV (by simp[Region.wanted,hgd]) (JG hrop) hR fun σ' Y w' hK O=>?_
 obtain⟨i,hi,a,N,rfl⟩:=hK
 have h:=h i hi
 have H:=H i
 have t:=t i
 generalize s i=Ar at h H t O
 generalize xF i=x at h O
 simp only[Bool.and_eq_true]at t
 obtain⟨k1,k2⟩:=t
 have hsub:∀q,q∈fr→∃b,(q,b)∈Ar:=fun q g=>by
  obtain⟨p,E,hk⟩:=YL.1 (Yk.1 k2 q g)
  rw[B4.1 hk];exact⟨p.2,E⟩
 let τ2:St:=Ab (FD l x (Dl fr ss)) (Ar++Cp (Ar.map (·.1)) fr fl hs)
 have D:∀q,AH (Ar++Cp (Ar.map (·.1)) fr fl hs) q=if q∈Ar.map (·.1)then AH Ar q else AH (Cp (Ar.map (·.1)) fr fl hs) q:=fun q=>zT _ _ _
 have hin:∀q,q∈Ar.map (·.1)→∃b,(q,b)∈Ar:=fun q g=>by obtain⟨p,E,rfl⟩:=Yy.1 g;exact⟨p.2,E⟩
 have F:∀q b,(q,b)∈Ar→Cy (C.r a) Ar σ.H ((C.r a).κ q)=AK (C.r a) q b∧AH Ar q=b∧Bx C.outs q=true∧b.live=true:=ul (r:=C.r a) L Ar σ.H k1
 have B:∀q,q∉Ar.map (·.1)→Bx C.outs q=true→Cy (C.r a) Ar σ.H ((C.r a).κ q)=σ.H ((C.r a).κ q)∧a q=γ q:=fun q g v=>by
  refine⟨PH _ _ _ fun p E=>L _ _ (F p.1 p.2 E).2.2.1 v fun e=>g (Yy.2 ⟨p,E,e⟩),N q fun hf=>?_⟩
  grind
 have K:∀q,Bx C.outs q=true→(σ.H (C.κ q)).g=γ q→(Cy (C.r a) Ar σ.H (C.κ q)).g=a q+(AH (Ar++Cp (Ar.map (·.1)) fr fl hs) q).g:=fun q v hq0=>by
  rw[D]
  split
  ·rename_i hm
   obtain⟨b,J⟩:=hin q hm
   obtain⟨a1,X,_⟩:=F q b J
   rw[show C.κ q=(C.r a).κ q from rfl,a1,X]
   rfl
  ·rename_i hm
   obtain⟨a1,X⟩:=B q hm v
   rw[show C.κ q=(C.r a).κ q from rfl,a1,X]
   have:(AH (Cp (Ar.map (·.1)) fr fl hs) q).g=0:=by
    rcases(Mc (fr:=fr) (fl:=fl) hs (Ar.map (·.1)) q).2 hm with⟨e,_⟩|e
    ·rw[e];exact PR k4 q
    ·rw[e];rfl
   rw[this]
   exact hq0
 have hG2:RG (C.r a) C.l C.outs [] τ2 ⟨fun j=>ren (C.r a) (τ2.s j),Cy (C.r a) Ar σ.H⟩:=by
  refine⟨fun j=>⟨fun _=>rfl,fun hn=>absurd A5 hn⟩,fun q g=>?_,fun d=>?_,fun i hi=>?_,fun q g=>?_,fun q g hn=>?_⟩
  ·show Cy (C.r a) Ar σ.H ((C.r a).κ q)=AK (C.r a) q (AH (Ar++Cp (Ar.map (·.1)) fr fl hs) q)
   replace g:(AH (Ar++Cp (Ar.map (·.1)) fr fl hs) q).live=true:=g
   rw[D]at g⊢
   split at g
   ·grind
   ·rename_i hm
    rw[if_neg hm]
    rcases(Mc (fr:=fr) (fl:=fl) hs (Ar.map (·.1)) q).2 hm with⟨e,e'⟩|e
    ·rw[e]at g⊢
     have v:=z.k q g
     have t:Bx C.outs q=true:=by
      obtain⟨q1,q2⟩:=q
      simp only at v
      simp only[Bx,Bool.or_eq_true,Bool.and_eq_true]
      rcases v with rfl|⟨rfl,h2⟩
      ·exact .inl rfl
      ·exact .inr ⟨rfl,jE h2⟩
     obtain⟨a1,X⟩:=B q hm t
     rw[a1]
     have J:=z.h q g
     have G:An (C.r a) (AH hs q).cells=An (C.r γ) (AH hs q).cells:=by
      rcases e' with e'|e'
      ·rw[FW (gy hfl q e'),FW (gy hfl q e')]
      ·exact Jz (r:=C.r γ) N _ e'
     show σ.H ((C.r γ).κ q)=_
     rw[J]
     simp only[AK]
     rw[G,show(C.r a).γ q=a q from rfl,X]
     rfl
    ·rw[e]at g;cases g
  ·have:=K (1,d) rfl (by
    have:=z.g d
    rw[show((Ab ss hs).H (1,d)).g=0 from PR k4 _]at this
    rw[hC.own];exact this)
   rw[hC.own]at this
   exact this
  ·exact K (0,i) (by simp only[Bx,Bool.or_eq_true,Bool.and_eq_true];exact .inr ⟨rfl,jE hi⟩) (by
    have:=z.go i hi
    rw[show((Ab ss hs).H (0,i)).g=0 from PR k4 _]at this
    exact this)
  ·replace g:(AH (Ar++Cp (Ar.map (·.1)) fr fl hs) q).live=true:=g
   rw[D]at g
   split at g
   ·rename_i hm
    obtain⟨b,J⟩:=hin q hm
    exact EO (F q b J).2.2.1
   ·rename_i hm
    rcases(Mc (fr:=fr) (fl:=fl) hs (Ar.map (·.1)) q).2 hm with⟨e,e'⟩|e
    ·rw[e]at g;exact z.k q g
    ·rw[e]at g;cases g
  ·show Cy (C.r a) Ar σ.H q=C.H0 q
   rw[PH _ _ _ fun p E e=>?_]
   ·exact z.o q g hn
   ·by_cases Z:p.1.1=1
    ·obtain⟨⟨p1,p2⟩,p3⟩:=p
     simp only at Z
     subst Z
     rw[show(C.r a).κ (1,p2)=(C.l+1,p2)from hC.own p2]at e
     grind
    ·exact hn (by rw[←e];exact fq H p E Z)
 refine h a _ Y w' (hC.G γ a (fun i hi=>N _ fun hm=>?_) hg) hG2 (R.weaken O fun j=>?_)
 ·have:=Yk.1 k3 _ hm
  simp only[Bool.not_eq_true',Bool.and_eq_false_iff]at this
  rcases this with h|h
  ·cases h
  ·have:(C.fx.any (Nat.beq i))=true:=YL.2 ⟨i,hi,by simp⟩
   grind
 ·have old:ren (C.r a) (AS (Dl fr ss) j)=σ.s j∨ren (C.r a) (AS (Dl fr ss) j)=.top:=by
   rcases tT (fr:=fr) ss j with e|⟨e,e'⟩
   ·right;rw[e];simp[ren]
   ·left
    rw[e,hs' j]
    exact sO (r:=C.r γ) N _ e'
  show ren (C.r a) (AS (FD l x (Dl fr ss)) j)=_∨ren (C.r a) (AS (FD l x (Dl fr ss)) j)=.top
  cases l with
  |none=>exact old
  |some d=>
   simp only[FD,AS,pA,upd]
   cases hj:Nat.beq d j with
   |true=>
    have:=Ya hj
    grind
   |false=>
    have:j≠d:=fun e=>by rw[e]at hj;simp at hj
    grind
theorem yI(D:CxOk C){os:Nat}{fx:List Nat}(F:C.outs=os)(E:C.fx=fx){c:Code}{k:Nat}{ss:List (Nat×AV)}{hs:List (Ac×Blk)}(e:Option Nat)(l:Operand)(j:List Operand)(q:Fo c k=some (e,l,j))
  (f:FuncId) (first d xs:List AV) (G:ev (AS ss) l=.fn (.func f) first d) (t:first++j.map (ev (AS ss))++d=xs) (ks:List Ac) (m:List (Ac×Blk)) (p:(ks.map fun k=>(k,AH hs k))=m)
  (x:AV) (Ar:List (Ac×Blk)) (fr fl:List Ac) (i:(CU os Ar&&Jh fr Ar&&JV fr fx&&F7 hs&&Kc n e&&ks.all (Bx os))=true) (s:Eb C Ar) (o:Hw (AH hs) fl)
  (g:∀r:Ren,r.θ=C.θ→r.H0=C.H0→r.κ=C.κ→r.no=C.no→Ga P C.l r f xs m x Ar fr)
  (h:LO P n C c (k+1) (Ab (FD e x (Dl fr ss)) (Ar++Cp (Ar.map (·.1)) fr fl hs)) Q):LO P n C c k (Ab ss hs) Q:=by
 simp only[Bool.and_eq_true]at i
 obtain⟨⟨⟨⟨⟨I,J⟩,K⟩,L⟩,M⟩,N⟩:=i
 exact ZxJ D F E e l j q f first d xs G t ks m p (ι:=Unit) (fun _=>True) (fun _=>x) (fun _=>Ar) fr fl (by simp only[Bool.and_eq_true];exact⟨⟨⟨K,L⟩,M⟩,N⟩) (fun _=>by simp only[Bool.and_eq_true];exact⟨I,J⟩) (fun _=>s) o
  (fun r w z A B u a b=>(g r w z A B u a b).mono fun y v H=>⟨(),trivial,H⟩) fun _ _=>h
end
def Dg(l:Nat)(ks:List Ac):Ac→Ac
 |(0,i)=>match Bj ks i with|some k=>k|none=>(0,0)
 |(_+1,d)=>(l+1,d)
def FG(a:List Nat):Ac→Nat
 |(0,i)=>match Bj a i with|some g=>g|none=>0
 |(_+1,_)=>0
def BU(l:Nat)(ks:List Ac)(a:List Nat)(θ:Nat→AV)(H:Hp):Ren:=⟨Dg l ks,FG a,θ,H,fun k=>k∈ks⟩
def GF(l:Nat)(ks:List Ac)(a:List Nat)(r:Ren):Prop:=r.κ=Dg l ks∧∀i,i<ks.length→r.γ (0,i)=FG a (0,i)
def Ck(r:Ren):Nat→List Blk→List Blk
 |_,[]=>[]
 |i,b::a=>AK r (0,i) b::Ck r (i+1) a
def CT(H:Hp):List Ac→List Blk→Hp
 |k::ks,b::a=>CT (updH H k b) ks a
 |_,_=>H
theorem JQ{r:Ren}{k:Ac}{g:Nat}{e:TypeId}{sz:Nat}{cs:List AV}(h:ET cs):AK r k ⟨g,true,e,sz,cs⟩=⟨r.γ k+g,true,e,sz,cs⟩:=by
 simp only[AK,FW h]
theorem ZZ:∀(ks:List Ac) (a:List Blk) (H:Hp) (q:Ac),q∉ks→CT H ks a q=H q
 |[],a,H,q,h=>by cases a<;>rfl
 |k::ks,[],H,q,h=>rfl
 |k::ks,b::a,H,q,h=>by
  simp only[CT]
  rw[ZZ ks a _ q (fun hm=>h (Yu _ hm)),AI _ _ (fun e=>h (by rw[e];exact YC ..))]
theorem u5:∀(ks:List Ac) (a:List Blk) (H:Hp),ks.Nodup→∀(j:Nat) (k:Ac) (b:Blk),ks[j]?=some k→a[j]?=some b→CT H ks a k=b
 |[],a,H,_,j,k,b,h,_=>by simp at h
 |q::ks,[],H,_,_,_,_,_,h=>by simp at h
 |q::ks,c::a,H,e,j,k,b,d,hb=>by
  simp only[CT]
  rw[List.nodup_cons]at e
  cases j with
  |zero=>
   simp only[YQ,Yf]at d hb
   subst d;subst hb
   rw[ZZ ks a _ _ e.1,AM]
  |succ j=>
   simp only[Y6]at d hb
   exact u5 ks a _ e.2 j k b d hb
theorem tN{r:Ren}:∀(a:List Blk) (i j:Nat),(Ck r i a)[j]?=(a[j]?).map (AK r (0,i+j))
 |[],i,j=>by simp[Ck]
 |b::a,i,0=>by simp[Ck]
 |b::a,i,j+1=>by
  simp only[Ck,Y6,tN a (i+1) j,show i+1+j=i+(j+1)from by omega]
theorem sI{P:Program}{T:Nat→Option TI}{n:Nat}{f:FuncId}{fn:Func}(J:List ResultVar)(c:Code){l:Nat}{xs:List AV}{H:Hp}{g:AV→Hp→Prop}(ks:List Ac)(t:List Nat)(fx:List Nat)(θ:Nat→AV)(ys:List AV)(hs:List (Ac×Blk))(LPost:AV→List Blk→Prop)
  (V:P.funcs[f]?=some fn) (hb:fn.body=some c) (s:(fn.name== "runtime.NumGoroutine")=false) (Z:fn.ntmps=n) (hr:fn.results.toList=J) (hx:xs.length≤n) (S:A9 P T)
  (D:∀k∈ks,k.1≤l) (u:ks.Nodup) (W:∀d,AH hs (1,d)=D5) (F:∀k,(AH hs k).live=true→k.1=0∧k.2<ks.length)
  (R:∀i k,ks[i]?=some k→(H k).g=FG t (0,i)+(AH hs (0,i)).g∧((AH hs (0,i)).live=true→H k=AK (BU l ks t θ H) (0,i) (AH hs (0,i))))
  (I:An (BU l ks t θ H) ys=xs)
  (h:∀C,CxOk C→C.outs=ks.length→C.fx=fx→C.l=l→C.H0=H→C.θ=θ→C.κ=Dg l ks→C.no=(fun k=>k∈ks)→LW P n C c (Ab (C5 0 ys) hs) (FQ T J ks.length LPost))
  (v:∀y b,LPost y b→b.length=ks.length∧(∀x∈b,x.live=true)∧∀r:Ren,r.κ=Dg l ks→r.θ=θ→r.H0=H→r.no=(fun k=>k∈ks)→(∀i∈fx,r.γ (0,i)=FG t (0,i))→g (ren r y) (CT H ks (Ck r 0 b))):Zct P f l xs H g:=by
 let C:Base→Cx:=fun B=>⟨l,B,Dg l ks,θ,H,ks.length,fun k=>k∈ks,fx,fun γ=>∀i∈fx,γ (0,i)=FG t (0,i)⟩
 have a:∀i,i<ks.length→ks[i]?=some (Dg l ks (0,i)):=fun i hi=>by
  show _=some (match Bj ks i with|some k=>k|none=>(0,0))
  rw[BZ,Yb hi]
 have E:∀(i:Nat) (k:Ac),ks[i]?=some k→i<ks.length:=fun i k hi=>by
  grind
 have K:∀B,CxOk (C B):=fun B=>by
  refine⟨fun _=>rfl,fun i hi=>D _ (Yi (a i hi)),fun i j hi Y e=>?_,fun k w=>?_,fun γ γ' he A i hi=>by rw[he i hi];exact A i hi⟩
  ·have m:=a i hi
   have o:=a j Y
   rw[show Dg l ks (0,i)=Dg l ks (0,j)from e]at m
   have Q:ks[i]?=ks[j]?:=m.trans o.symm
   exact(List.getElem?_inj hi u).1 Q
  ·obtain⟨i,hi⟩:=Yv.1 (show k∈ks from w)
   grind
 refine tF J C (γ:=FG t) (LPost:=LPost) (ys:=ys) (hs:=hs) V hb s Z hr hx S K (fun B=>⟨rfl,rfl,rfl,fun i _=>rfl⟩) (fun B=>I) (fun _=>rfl) W (fun B k w=>?_) (fun B i hi=>?_) (fun B γ y b N A hy L _=>?_) (fun B=>h _ (K B) rfl rfl rfl rfl rfl rfl rfl)
 ·obtain⟨m,o⟩:=F k w
  obtain⟨k1,M⟩:=k
  simp only at m o
  subst m
  exact⟨rfl,o,(R M _ (a M o)).2 w⟩
 ·grind
 ·obtain⟨U,z,v⟩:=v y b hy
  have v:=v ((C B).r γ) rfl rfl rfl rfl fun i hi=>A i hi
  have O:N=CT H ks (Ck ((C B).r γ) 0 b):=by
   funext q
   by_cases G:q∈ks
   ·obtain⟨i,hi⟩:=Yv.1 G
    have X:=E i q hi
    have p:b[i]?=some b[i]:=Yb (by omega)
    have m:=L.live i _ p (z _ (Yi p))
    have o:Dg l ks (0,i)=q:=by
     grind
    rw[show(C B).κ (0,i)=q from o]at m
    rw[m,u5 ks _ H u i q (AK ((C B).r γ) (0,i) b[i]) hi]
    rw[tN,p,YD]
    rfl
   ·rw[ZZ ks _ H q G]
    exact L.o q G
  rw[O];exact v
theorem Zlh{P:Program}{T:Nat→Option TI}{n:Nat}{f:FuncId}{fn:Func}(w:List ResultVar)(c:Code){l:Nat}{xs:List AV}{H:Hp}{a:AV→Hp→Prop}(ks:List Ac)(e:List Nat)(fx:List Nat)(θ:Nat→AV)(ys:List AV)(hs:List (Ac×Blk))(LPost:AV→List Blk→Prop)
  (F:P.funcs[f]?=some fn) (hb:fn.body=some c) (g:(fn.name== "runtime.NumGoroutine")=false) (I:fn.ntmps=n) (J:fn.results.toList=w) (K:xs.length≤n) (D:A9 P T)
  (q:∀k∈ks,k.1≤l) (t:ks.Nodup) (p:∀i,i<ks.length→i∈fx) (G:∀d,AH hs (1,d)=D5) (s:∀k,(AH hs k).live=true→k.1=0∧k.2<ks.length)
  (B:∀i k,ks[i]?=some k→(H k).g=FG e (0,i)+(AH hs (0,i)).g∧((AH hs (0,i)).live=true→H k=AK (BU l ks e θ H) (0,i) (AH hs (0,i))))
  (v:An (BU l ks e θ H) ys=xs)
  (h:∀C,CxOk C→C.outs=ks.length→C.fx=fx→C.l=l→C.H0=H→C.θ=θ→C.κ=Dg l ks→C.no=(fun k=>k∈ks)→LW P n C c (Ab (C5 0 ys) hs) (FQ T w ks.length LPost))
  (u:∀y b,LPost y b→b.length=ks.length∧(∀x∈b,x.live=true)∧∃Y' bs',(∀r,GF l ks e r→ren r y=Y')∧(∀r,GF l ks e r→Ck r 0 b=bs')∧a Y' (CT H ks bs')):Zct P f l xs H a:=by
 refine sI w c ks e fx θ ys hs LPost F hb g I J K D q t G s B v h fun y b hy=>?_
 obtain⟨m,o,Y',bs',E,hB,u⟩:=u y b hy
 refine⟨m,o,fun r z _ _ _ A=>?_⟩
 have j:GF l ks e r:=⟨z,fun i hi=>A i (p i hi)⟩
 rw[E _ j,hB _ j];exact u
theorem Zor{P:Program}{T:Nat→Option TI}{n:Nat}{f:FuncId}{fn:Func}(v:List ResultVar)(c:Code){l:Nat}{xs:List AV}{H:Hp}{a:AV→Hp→Prop}(ks:List Ac)(g:List Nat)(fx:List Nat)(θ:Nat→AV)(ys:List AV)(hs:List (Ac×Blk))(Y:AV)(j:List Blk){Y':AV}{bs':List Blk}
  (D:P.funcs[f]?=some fn) (hb:fn.body=some c) (e:(fn.name== "runtime.NumGoroutine")=false) (F:fn.ntmps=n) (I:fn.results.toList=v) (J:xs.length≤n) (A:A9 P T)
  (q:∀k∈ks,k.1≤l) (t:ks.Nodup) (p:∀i,i<ks.length→i∈fx) (E:∀d,AH hs (1,d)=D5) (s:∀k,(AH hs k).live=true→k.1=0∧k.2<ks.length)
  (z:∀i k,ks[i]?=some k→(H k).g=FG g (0,i)+(AH hs (0,i)).g∧((AH hs (0,i)).live=true→H k=AK (BU l ks g θ H) (0,i) (AH hs (0,i))))
  (u:An (BU l ks g θ H) ys=xs) (m:j.length=ks.length) (o:∀b∈j,b.live=true) (B:∀r,GF l ks g r→ren r Y=Y') (hB:∀r,GF l ks g r→Ck r 0 j=bs')
  (h:∀C,CxOk C→C.outs=ks.length→C.fx=fx→C.l=l→C.H0=H→C.θ=θ→C.κ=Dg l ks→C.no=(fun k=>k∈ks)→LW P n C c (Ab (C5 0 ys) hs) (FQ T v ks.length (fun y b=>y=Y∧b=j)))
  (G:a Y' (CT H ks bs')):Zct P f l xs H a:=by
 exact Zlh v c ks g fx θ ys hs (fun y b=>y=Y∧b=j) D hb e F I J A q t p E s z u h fun y b ⟨w,x⟩=>by subst w;subst x;exact⟨m,o,Y',bs',B,hB,G⟩
section
variable {P:Program} {l:Nat} {r:Ren} {f:FuncId} {xs xs':List AV} {hb Ar:List (Ac×Blk)} {x x':AV}
theorem Zvh(e:An r xs=xs')(g:ren r x=x')(h:∀a,(∀p∈hb,(a (r.κ p.1)).g=r.γ p.1+p.2.g∧(p.2.live=true→a (r.κ p.1)=AK r p.1 p.2))→(∀k:Ac,k.1≤l→¬r.no k→a k=r.H0 k)→Zct P f (l+1) xs' a (fun y b=>y=x'∧b=Cy r Ar a)):
  Ga P l r f xs hb x Ar []:=fun a hb i=>by
 rw[e]
 exact(h a hb i).mono fun y b ⟨c,d⟩=>⟨r.γ,fun _ _=>rfl,by rw[c,←g],d⟩
end
theorem tJ{α:Type}{e:α→List D}{r:Ren}{k:Ac}(xs:List α):Ey r k (Af e xs):=by
 unfold Ey
 rw[FW (A1 e xs)]
 refine Yk.2 fun x a=>?_
 obtain⟨d,_,rfl⟩:=Yy.1 a
 rfl
theorem vj{r:Ren}{k:Ac}{vs:List AV}(h:(An r vs).all (AV.low (r.κ k).1)=true):Ey r k vs:=h
theorem v7{r:Ren}{k:Ac}(ds:List D):Ey r k (ds.map .d):=by
 unfold Ey
 rw[F5]
 refine Yk.2 fun x a=>?_
 obtain⟨d,_,rfl⟩:=Yy.1 a
 rfl
theorem sC{α:Type}(e:α→List D)(xs:List α):Ej (Af e xs):=fun x a=>by
 obtain⟨d,_,rfl⟩:=Yy.1 a;rfl
theorem Zxq{α:Type}{e:α→List D}{xs:List α}{off cn sz:Nat}{z:List AV}(hl:∀x,(e x).length=sz)(h:off+cn≤xs.length):
  XA (Af e xs) off cn sz z ((Af e xs).take (off*sz)++(List.replicate cn z).flatten++(Af e xs).drop ((off+cn)*sz)):=by
 refine⟨?_,rfl⟩
 rw[CY hl]
 exact YG _ h
theorem Zxd{α:Type}{e:α→List D}{xs:List α}{off sz:Nat}{A B:List AV}(hl:∀x,(e x).length=sz)(h:off≤xs.length):∃m,((Af e xs).take (off*sz)++A++B).take m=Af e (xs.take off):=by
 refine⟨off*sz,?_⟩
 have a:((Af e xs).take (off*sz)).length=off*sz:=by
  rw[Yr,CY hl]
  exact GI (YG _ h)
 rw[Y2,Tv (by omega),Tz (by omega),PN hl]
def Hh(n:Nat):List (Ac×Blk)→Bool
 |[]=>true
 |(k,_)::r=>Nat.beq k.1 0&&Nat.ble (k.2+1) n&&Hh n r
theorem bz{n:Nat}:∀{hs:List (Ac×Blk)},Hh n hs=true→∀k,(AH hs k).live=true→k.1=0∧k.2<n
 |[],_,k,h=>by simp[AH,D5]at h
 |(q,b)::r,hi,k,h=>by
  simp only[Hh,Bool.and_eq_true]at hi
  simp only[AH]at h
  split at h
  ·rename_i a
   have a:=B4.1 a
   subst a
   exact⟨Ya hi.1.1,Yc hi.1.2⟩
  ·exact bz hi.2 k h
theorem aF{n:Nat}:∀{hs:List (Ac×Blk)},Hh n hs=true→∀d,AH hs (1,d)=D5
 |[],_,d=>rfl
 |(q,b)::r,hi,d=>by
  simp only[Hh,Bool.and_eq_true]at hi
  simp only[AH]
  split
  ·rename_i a
   have a:=B4.1 a
   subst a
   have:=Ya hi.1.1
   grind
  ·exact aF hi.2 d
def HF(H:Hp)(r:Ren)(hs:List (Ac×Blk)):Nat→List Ac→Prop
 |_,[]=>True
 |i,k::ks=>((H k).g=r.γ (0,i)+(AH hs (0,i)).g∧((AH hs (0,i)).live=true→H k=AK r (0,i) (AH hs (0,i))))∧HF H r hs (i+1) ks
theorem h9{H:Hp}{r:Ren}{hs:List (Ac×Blk)}:∀{ks:List Ac} {i:Nat},HF H r hs i ks→∀j k,ks[j]?=some k→(H k).g=r.γ (0,i+j)+(AH hs (0,i+j)).g∧((AH hs (0,i+j)).live=true→H k=AK r (0,i+j) (AH hs (0,i+j)))
 |[],i,_,j,k,h=>by simp at h
 |q::ks,i,h,0,k,a=>by
  simp only[YQ,Yf]at a
  subst a
  exact h.1
 |q::ks,i,h,j+1,k,a=>by
  have:=h9 h.2 j k (by simpa using a)
  grind
def Hi(l:Nat):List Ac→Prop
 |[]=>True
 |k::ks=>k.1≤l∧Hi l ks
theorem Qj{l:Nat}:∀{ks:List Ac},Hi l ks→∀k∈ks,k.1≤l
 |q::ks,h,k,a=>by
  rcases Yw.1 a with rfl|a
  ·exact h.1
  ·exact Qj h.2 k a
def Hk:Nat→List Nat
 |0=>[]
 |n+1=>Hk n++[n]
theorem PP:∀{n i:Nat},i<n→i∈Hk n
 |n+1,i,h=>by
  simp only[Hk,FP,HJ]
  rcases Ys i n with a|a
  ·exact .inl (PP a)
  grind
theorem Zk9{P:Program}{T:Nat→Option TI}{n:Nat}{f:FuncId}{fn:Func}(u:List ResultVar)(c:Code){l:Nat}{xs:List AV}{H:Hp}{a:AV→Hp→Prop}(ks:List Ac)(g:List Nat)(os:Nat)(θ:Nat→AV)(ys:List AV)(hs:List (Ac×Blk))(Y:AV)(e:List Blk){Y':AV}{bs':List Blk}
  (z:P.funcs[f]?=some fn) (hb:fn.body=some c) (d:(fn.name== "runtime.NumGoroutine")=false) (B:fn.ntmps=n) (E:fn.results.toList=u) (F:xs.length≤n) (w:A9 P T) (s:ks.length=os)
  (p:Hi l ks) (q:ks.Nodup) (j:Hh os hs=true) (v:HF H (BU l ks g θ H) hs 0 ks) (t:An (BU l ks g θ H) ys=xs) (m:e.length=os) (o:∀b∈e,b.live=true) (x:∀r,GF l ks g r→ren r Y=Y') (hB:∀r,GF l ks g r→Ck r 0 e=bs')
  (h:∀C,CxOk C→C.outs=os→C.fx=Hk os→C.l=l→C.H0=H→C.θ=θ→C.κ=Dg l ks→C.no=(fun k=>k∈ks)→LW P n C c (Ab (C5 0 ys) hs) (FQ T u os (fun y b=>y=Y∧b=e)))
  (D:a Y' (CT H ks bs')):Zct P f l xs H a:=by
 subst s
 exact Zor u c ks g (Hk ks.length) θ ys hs Y e z hb d B E F w (Qj p) q (fun i hi=>PP hi) (aF j) (bz j) (fun i k A=>by have:=h9 v i k A;rw[YD]at this;exact this) t m o x hB h D
theorem Zn3{α:Type}{e e':α→List D}{xs:List α}{j sz:Nat}{x:α}(b:xs[j]?=some x)(hl:∀x,(e x).length=sz)(he:∀x,e x=e' x):Dk (Af e xs) (j*sz) ((e' x).map .d):=by
 have a:j<xs.length:=by
  grind
 have:=sp (z:=x) a hl he
 grind
theorem y0{P:Program}{l o:Nat}{no b:Ac→Prop}{H j:Hp}{c:AV}{m:List AV}{y:AV}(h:CK P l no H c m y)(hl:l≤o)(i:∀q:Ac,q.1≤l→¬no q→¬b q)(r:∀q:Ac,q.1≤l→¬no q→j q=H q):CK P o b j c m y:=by
 obtain⟨f,first,a,e,h⟩:=h
 exact⟨f,first,a,e,fun t p g s=>h t p (FR hl g) fun k d n=>by rw[s k (FR d hl) (i k d n),r k d n]⟩
def ZIh:Code→Operand
 |.cond o _ _=>o
 |_=>.tmp 0
def Ep(c:Code)(k:Nat):Option Nat:=match Fo c k with|some (d,_,_)=>d|none=>none
def callF(c:Code)(k:Nat):Operand:=match Fo c k with|some (_,f,_)=>f|none=>.tmp 0
def Fr(c:Code)(k:Nat):List Operand:=match Fo c k with|some (_,_,xs)=>xs|none=>[]
theorem tP{P:Program}{n:Nat}{C:Cx}{Q:Exit→St→Prop}(m:CxOk C){os:Nat}{fx:List Nat}(p:C.outs=os)(o:C.fx=fx){c:Code}{k:Nat}{ss:List (Nat×AV)}{hs:List (Ac×Blk)}
  (f:FuncId) (first a xs:List AV) (i:Fo c k=some (Ep c k,callF c k,Fr c k)) (q:ev (AS ss) (callF c k)=.fn (.func f) first a) (l:first++(Fr c k).map (ev (AS ss))++a=xs) (ks:List Ac) (hb:List (Ac×Blk)) (e:(ks.map fun k=>(k,AH hs k))=hb)
  (x:AV) (Ar:List (Ac×Blk)) (fr fl:List Ac) (g:(CU os Ar&&Jh fr Ar&&JV fr fx&&F7 hs&&Kc n (Ep c k)&&ks.all (Bx os))=true) (j:Eb C Ar) (d:Hw (AH hs) fl)
  (b:∀r:Ren,r.θ=C.θ→r.H0=C.H0→r.κ=C.κ→r.no=C.no→Ga P C.l r f xs hb x Ar fr)
  (h:LO P n C c (k+1) (Ab (FD (Ep c k) x (Dl fr ss)) (Ar++Cp (Ar.map (·.1)) fr fl hs)) Q):LO P n C c k (Ab ss hs) Q:=
 yI m p o _ _ _ i f first a xs q l ks hb e x Ar fr fl g j d b h
end Go.Eng
namespace Go.Eng
open Go
set_option linter.all false
end Go.Eng
namespace Go.Eng
set_option linter.all false
open Go Go.RowKit Go.Shelf
theorem ZEh{α:Type}{e:α→List D}{xs:List α}{l h:Nat}(q:Ec l h xs.length):Ec l h (xs.map e).length:=by rw[Yp];exact q
theorem yS{α:Type}{e:α→List D}{xs:List α}{sz:Nat}(he:∀x,(e x).length=sz):∀d,d∈xs.map e→d.length=sz:=fun d h=>by
 grind
theorem ZEL{α:Type}{e:α→List D}{xs:List α}{sz l h:Nat}(he:∀x,(e x).length=sz):NA (xs.map e) sz l h (((xs.drop l).take (h-l)).map e):=
 ⟨yS he,by rw[←List.map_drop,←List.map_take]⟩
theorem Zpu{i:Int}{len sz:Nat}(a:0≤i)(h:i<len):Ji i len 0 sz (i.toNat*sz):=⟨a,h,by simp⟩
theorem ZxN{α:Type}{e:α→List D}{xs:List α}{j sz a:Nat}{z y:α}{vs:List D}(b:j<xs.length)(hl:∀x,(e x).length=sz)(h:a+vs.length≤sz)(he:e y=(e (xs.getD j z)).take a++vs++(e (xs.getD j z)).drop (a+vs.length)):
  GH (Af e xs) (j*sz+a) (vs.map .d) (Af e (xs.set j y)):=by
 have d:(j+1)*sz≤xs.length*sz:=YG _ b
 rw[YH,IZ]at d
 refine⟨by rw[Yp,CY hl];omega,?_⟩
 have f:xs.getD j z=xs[j]:=by rw[Yz,Yb b];rfl
 rw[f]at he
 have hs:Af e xs=Af e (xs.take j)++((e xs[j]).map .d++Af e (xs.drop (j+1))):=by
  conv=>lhs;rw[←Y1 j xs,Y9 b,JK,Fk]
 have c:(Af e (xs.take j)).length=j*sz:=by rw[CY hl,Yr,GI (by omega)]
 have g:((e xs[j]).map AV.d).length=sz:=by rw[Yp,hl]
 rw[hs,List.take_append,Tz (by omega:(Af e (xs.take j)).length≤j*sz+a),c,show j*sz+a-j*sz=a from by omega,Tv (by omega),
  List.drop_append,jQ (by rw[c];omega),c,FO,show j*sz+a+(vs.map AV.d).length-j*sz=a+vs.length from by rw[Yp];omega,jB (by omega),
  jC,if_pos b,JK,Fk,he]
 simp only[HQ,List.map_take,List.map_drop,Y2]
end Go.Eng
namespace Go.Eng
set_option linter.all false
theorem PX{α:Type}{l:List α}{p:α→Bool}:((match l.findIdx? p with|some k=>(k:Int)|none=>-1)≥0)↔l.any p=true:=by
 rw[YL]
 cases h:l.findIdx? p with
 |none=>
  rw[jI]at h
  constructor
  ·intro e;exact absurd e (by decide)
  ·rintro⟨x,d,a⟩;rw[h x d]at a;cases a
 |some k=>
  obtain⟨b,c,_⟩:=Y4.1 h
  exact⟨fun _=>⟨l[k],I0 b,c⟩,fun _=>Int.natCast_nonneg k⟩
theorem Zxi{α:Type}{e e':α→List D}{xs:List α}{j sz:Nat}{y:α}(a:j<xs.length)(hl:∀x,(e x).length=sz)(he:∀x,e x=e' x):GH (Af e xs) (j*sz) ((e' y).map .d) (Af e (xs.set j y)):=by
 rw[←he];exact yE a hl
theorem tn{α:Type}{sz:Nat}{e e':α→List D}{y:α}(C:List AV)(hl:∀x,(e x).length=sz)(he:∀x,e x=e' x):D4 sz C (.d (.list [e' y])) 1 (Af e [y]):=by
 rw[Zxx,he];exact Zwq C (by rw[←he];exact hl y)
theorem z2{C:List AV}{o n m sz:Nat}{es:List (List D)}(h:n=m)(k:GC C o m sz es):GC C o n sz es:=h▸k
theorem z8{α:Type}{e:α→List D}{xs:List α}{n m off sz:Nat}(a:n=m)(h:off≤xs.length)(hl:∀x,(e x).length=sz):n=m∧off*sz≤(Af e xs).length∧(Af e xs).drop (off*sz)=Af e (xs.drop off):=
 ⟨a,by rw[CY hl];exact YG _ h,JE hl xs off⟩
theorem yF{α:Type}{e:α→List D}{z:α}{c:List AV}(a:(e z).map .d=c)(m:Nat):(List.replicate m c).flatten=Af e (List.replicate m z):=by
 subst a
 induction m with
 |zero=>rfl
 |succ m b=>rw[Tq,HK,b,Tq,Fk]
end Go.Eng
namespace Go.Eng
set_option linter.all false
open Go Go.RowKit
section
variable {P:Program} {T:Nat→Option TI} {n:Nat} {C:Cx} {τ:St} {Q:Exit→St→Prop}
theorem ZEK(f:CxOk C){os:Nat}{fx:List Nat}(k:C.outs=os)(i:C.fx=fx){c:Code}(a:AT)(lf:Lf)(q:Ren→(St→Prop)→Prop)
  (m:∀r Φ,Bg r os a τ (fun τ _=>Em fx lf τ Φ)=q r Φ) (h:∀r,r.θ=C.θ→r.H0=C.H0→r.κ=C.κ→r.no=C.no→q r (fun τ'=>LW P n C c τ' Q)):LW P n C c τ Q:=by
 subst k
 subst i
 intro γ σ l j
 have e:=h (C.r γ) rfl rfl rfl rfl
 rw[←m]at e
 obtain⟨y,w,x,g,b,d⟩:=BW (n:=n) f a e j
 obtain⟨u,z,v,o,p,s,t⟩:=FV (n:=n) f g l b
 exact Bz.weak (p u v o s) (d.trans t)
end
theorem uk{s:ByteArray}{i:Int}(a:0≤i)(h:i<s.size):Hg s i ((s.data.toList.getD i.toNat 0).toNat:Int):=by
 have:=uS (s:=s) (i:=i.toNat) (by omega)
 rwa [Int.toNat_of_nonneg a]at this
end Go.Eng
