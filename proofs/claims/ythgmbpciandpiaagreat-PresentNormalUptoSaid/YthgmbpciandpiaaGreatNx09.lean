import Derived.Test.YthgmbpciandpiaaGreatNx08
import Derived.Shelf.Spec.SlicesGrow
import Derived.Test.YthgmbpciandpiaaGreatNx00
namespace Go.Eng
structure Raw where
 num:Int
 wire:Int
 bits:Int
 data:ByteArray
deriving Inhabited,DecidableEq
mutual
inductive Val where
 |mk (kind bits:Int) (text:ByteArray) (list:List Val) (pairs:List Pr) (slots:List Slt) (raws:List Raw)
inductive Pr where
 |mk (key val:Val)
inductive Slt where
 |mk (num:Int) (val:Val)
end
inductive Msk where
 |mk (num:Int) (subs:List Msk)
instance:Inhabited Val:=⟨.mk 0 0 .empty [] [] [] []⟩
instance:Inhabited Pr:=⟨.mk default default⟩
instance:Inhabited Slt:=⟨.mk 0 default⟩
instance:Inhabited Msk:=⟨.mk 0 []⟩
def Val.kind:Val→Int|.mk k _ _ _ _ _ _=>k
def Val.bits:Val→Int|.mk _ b _ _ _ _ _=>b
def Val.text:Val→ByteArray|.mk _ _ t _ _ _ _=>t
def Val.list:Val→List Val|.mk _ _ _ l _ _ _=>l
def Val.pairs:Val→List Pr|.mk _ _ _ _ p _ _=>p
def Val.slots:Val→List Slt|.mk _ _ _ _ _ s _=>s
def Val.raws:Val→List Raw|.mk _ _ _ _ _ _ r=>r
def Pr.key:Pr→Val|.mk k _=>k
def Pr.val:Pr→Val|.mk _ v=>v
def Slt.num:Slt→Int|.mk n _=>n
def Slt.val:Slt→Val|.mk _ v=>v
def Msk.num:Msk→Int|.mk n _=>n
def Msk.subs:Msk→List Msk|.mk _ s=>s
def AW(s:ByteArray):List D:=[.str s]
def ZXd(s:Int):List D:=[.int .i64 s]
def AX(s:Bool):List D:=[.bool s]
def A0(x:Raw):List D:=[.int .i64 x.num,.int .i64 x.wire,.int .u64 x.bits,.str x.data]
mutual
def AM:Val→List D
 |.mk k b t l p s r=>[.int .i64 k,.int .u64 b,.str t,.list (Nk l),.list (LF p),.list (Nu s),.list (r.map A0)]
def Nk:List Val→List (List D)
 |[]=>[]
 |v::vs=>AM v::Nk vs
def Ay:Pr→List D
 |.mk k v=>AM k++AM v
def LF:List Pr→List (List D)
 |[]=>[]
 |v::vs=>Ay v::LF vs
def Am:Slt→List D
 |.mk n v=>.int .i64 n::AM v
def Nu:List Slt→List (List D)
 |[]=>[]
 |v::vs=>Am v::Nu vs
end
mutual
def OD:Msk→List D
 |.mk n s=>[.int .i64 n,.list (SE s)]
def SE:List Msk→List (List D)
 |[]=>[]
 |v::vs=>OD v::SE vs
end
theorem Zsw(l:List Val):Nk l=l.map AM:=by induction l with|nil=>rfl|cons v l a=>simp[Nk,a]
theorem ZCW(l:List Pr):LF l=l.map Ay:=by induction l with|nil=>rfl|cons v l a=>simp[LF,a]
theorem ZyX(l:List Slt):Nu l=l.map Am:=by induction l with|nil=>rfl|cons v l a=>simp[Nu,a]
theorem Zta(l:List Msk):SE l=l.map OD:=by induction l with|nil=>rfl|cons v l a=>simp[SE,a]
def Ag(x:Val):List D:=[.int .i64 x.kind,.int .u64 x.bits,.str x.text,.list (x.list.map AM),.list (x.pairs.map Ay),.list (x.slots.map Am),.list (x.raws.map A0)]
def Dp(x:Pr):List D:=[.int .i64 x.key.kind,.int .u64 x.key.bits,.str x.key.text,.list (x.key.list.map AM),.list (x.key.pairs.map Ay),.list (x.key.slots.map Am),.list (x.key.raws.map A0),.int .i64 x.val.kind,.int .u64 x.val.bits,.str x.val.text,.list (x.val.list.map AM),.list (x.val.pairs.map Ay),.list (x.val.slots.map Am),.list (x.val.raws.map A0)]
def BW(x:Slt):List D:=[.int .i64 x.num,.int .i64 x.val.kind,.int .u64 x.val.bits,.str x.val.text,.list (x.val.list.map AM),.list (x.val.pairs.map Ay),.list (x.val.slots.map Am),.list (x.val.raws.map A0)]
def ZYA(x:Msk):List D:=[.int .i64 x.num,.list (x.subs.map OD)]
theorem Gk(v:Val):AM v=Ag v:=by
 cases v;simp[AM,Ag,Zsw,ZCW,ZyX,Val.kind,Val.bits,Val.text,Val.list,Val.pairs,Val.slots,Val.raws]
theorem KT(v:Pr):Ay v=Dp v:=by cases v;simp[Ay,Gk,Ag,Dp,Pr.key,Pr.val]
theorem H2(v:Slt):Am v=BW v:=by cases v;simp[Am,Gk,Ag,BW,Slt.num,Slt.val]
theorem ZWa(v:Msk):OD v=ZYA v:=by cases v;simp[OD,ZYA,Zta,Msk.num,Msk.subs]
structure Typ where
 kind:Int
 name:ByteArray
deriving Inhabited,DecidableEq
def DJ(x:Typ):List D:=[.int .i64 x.kind,.str x.name]
structure Nt where
 name:ByteArray
 val:Val
deriving Inhabited
def BS(x:Nt):List D:=[.str x.name,.int .i64 x.val.kind,.int .u64 x.val.bits,.str x.val.text,.list (x.val.list.map AM),.list (x.val.pairs.map Ay),.list (x.val.slots.map Am),.list (x.val.raws.map A0)]
structure Fld where
 num:Int
 name:ByteArray
 card:Int
 key:Int
 type:Typ
 union:ByteArray
 hasDefault:Bool
 dflt:Val
 notes:List Nt
deriving Inhabited
def Ao(x:Fld):List D:=[.int .i64 x.num,.str x.name,.int .i64 x.card,.int .i64 x.key,.int .i64 x.type.kind,.str x.type.name,.str x.union,.bool x.hasDefault,.int .i64 x.dflt.kind,.int .u64 x.dflt.bits,.str x.dflt.text,.list (x.dflt.list.map AM),.list (x.dflt.pairs.map Ay),.list (x.dflt.slots.map Am),.list (x.dflt.raws.map A0),.list (x.notes.map BS)]
structure Spn where
 lo:Int
 hi:Int
deriving Inhabited,DecidableEq
def Cv(x:Spn):List D:=[.int .i64 x.lo,.int .i64 x.hi]
structure By where
 b:UInt8
deriving Inhabited,DecidableEq
def By.v(x:By):Int:=x.b.toNat
def eBy(x:By):List D:=[.int .u8 x.v]
structure Msg where
 name:ByteArray
 fields:List Fld
 reserved:List Spn
 gone:List ByteArray
 notes:List Nt
deriving Inhabited
def AE(x:Msg):List D:=[.str x.name,.list (x.fields.map Ao),.list (x.reserved.map Cv),.list (x.gone.map AW),.list (x.notes.map BS)]
structure Itm where
 name:ByteArray
 num:Int
 notes:List Nt
deriving Inhabited
def Cr(x:Itm):List D:=[.str x.name,.int .i64 x.num,.list (x.notes.map BS)]
structure Enm where
 name:ByteArray
 opn:Bool
 items:List Itm
 reserved:List Spn
 notes:List Nt
deriving Inhabited
def Bw(x:Enm):List D:=[.str x.name,.bool x.opn,.list (x.items.map Cr),.list (x.reserved.map Cv),.list (x.notes.map BS)]
structure Mth where
 name:ByteArray
 inn:ByteArray
 out:ByteArray
 shape:Int
 notes:List Nt
deriving Inhabited
def G4(x:Mth):List D:=[.str x.name,.str x.inn,.str x.out,.int .i64 x.shape,.list (x.notes.map BS)]
structure Svc where
 name:ByteArray
 methods:List Mth
 notes:List Nt
deriving Inhabited
def CV(x:Svc):List D:=[.str x.name,.list (x.methods.map G4),.list (x.notes.map BS)]
structure Scm where
 messages:List Msg
 enums:List Enm
 services:List Svc
deriving Inhabited
def Al(x:Scm):List D:=[.list (x.messages.map AE),.list (x.enums.map Bw),.list (x.services.map CV)]
structure Fil where
 name:ByteArray
 space:ByteArray
 imports:List ByteArray
 messages:List Msg
 enums:List Enm
 services:List Svc
deriving Inhabited
def ZZV(x:Fil):List D:=[.str x.name,.str x.space,.list (x.imports.map AW),.list (x.messages.map AE),.list (x.enums.map Bw),.list (x.services.map CV)]
structure Prb where
 dfn:ByteArray
 num:Int
 err:Int
deriving Inhabited,DecidableEq
def AA(x:Prb):List D:=[.str x.dfn,.int .i64 x.num,.int .i64 x.err]
structure Stp where
 num:Int
 pos:Int
 hasKey:Bool
 key:Val
deriving Inhabited
structure Edt where
 path:List Stp
 kind:Int
 val:Val
deriving Inhabited
class Mv (V:Type) where
 q:Bool
 e:V→List D
 z:V
def A2{V:Type}[Mv V](p:ByteArray×V):List D:=.str p.1::Mv.e p.2
instance:Mv Bool:=⟨false,AX,false⟩
instance:Mv Int:=⟨false,ZXd,0⟩
instance:Mv Msg:=⟨true,AE,⟨⟨#[]⟩,[],[],[],[]⟩⟩
instance:Mv (List Int):=⟨false,fun x=>[.list (x.map ZXd)],[]⟩
instance (V:Type) [Mv V]:Mv (List (ByteArray×V)):=⟨false,fun m=>[.map (Mv.q V) (m.map A2)],[]⟩
structure Web where
 messages:List (ByteArray×Msg)
 enums:List (ByteArray×Bool)
deriving Inhabited
def Kb(x:Web):List D:=[.map true (x.messages.map A2),.map false (x.enums.map A2)]
structure Lst where
 dfn:ByteArray
 l:List Prb
deriving Inhabited
structure Acs where
 m:Msg
 s:Scm
deriving Inhabited
def Cc(x:Acs):List D:=[.str x.m.name,.list (x.m.fields.map Ao),.list (x.m.reserved.map Cv),.list (x.m.gone.map AW),.list (x.m.notes.map BS),.list (x.s.messages.map AE),.list (x.s.enums.map Bw),.list (x.s.services.map CV)]
structure Lnk where
 files:List Fil
 f:Fil
 known:List ByteArray
 messages:List ByteArray
 enums:List Enm
deriving Inhabited
def ZYL:Raw:=⟨0,0,0,⟨#[]⟩⟩
def L1:Val:=.mk 0 0 ⟨#[]⟩ [] [] [] []
def zPr:Pr:=.mk L1 L1
def ZZc:Slt:=.mk 0 L1
def ZZX:Msk:=.mk 0 []
def ZYM:Typ:=⟨0,⟨#[]⟩⟩
def zNt:Nt:=⟨⟨#[]⟩,L1⟩
def ZY5:Fld:=⟨0,⟨#[]⟩,0,0,ZYM,⟨#[]⟩,false,L1,[]⟩
def ZZL:Spn:=⟨0,0⟩
def zBy:By:=⟨0⟩
def ZYU:Msg:=⟨⟨#[]⟩,[],[],[],[]⟩
def ZZf:Itm:=⟨⟨#[]⟩,0,[]⟩
def ZZd:Enm:=⟨⟨#[]⟩,false,[],[],[]⟩
def ZYW:Mth:=⟨⟨#[]⟩,⟨#[]⟩,⟨#[]⟩,0,[]⟩
def ZZu:Svc:=⟨⟨#[]⟩,[],[]⟩
def ZZW:Fil:=⟨⟨#[]⟩,⟨#[]⟩,[],[],[],[]⟩
def ZZb:Prb:=⟨⟨#[]⟩,0,0⟩
end Go.Eng
namespace Go.Eng
set_option linter.all false
open Go Go.RowKit
def Il:List Nat→Code→Code
 |[],c=>c
 |0::p,.seq a _=>Il p a
 |_::p,.seq _ b=>Il p b
 |0::p,.cond _ a _=>Il p a
 |_::p,.cond _ _ b=>Il p b
 |_::p,.block _ c=>Il p c
 |_::p,.loop c=>Il p c
 |_::p,.scope c=>Il p c
 |_,c=>c
def Aw(f:Func):Code:=f.body.getD .skip
def Af{α:Type}(e:α→List D)(xs:List α):List AV:=((xs.map e).flatten).map .d
theorem A6{α:Type}(e:α→List D)(xs:List α):Gq (Af e xs):=fun x a=>by
 obtain⟨d,_,rfl⟩:=YX.1 a;rfl
theorem DX{α:Type}{e:α→List D}{sz:Nat}(he:∀x,(e x).length=sz)(xs:List α):(Af e xs).length=xs.length*sz:=by
 unfold Af
 induction xs with
 |nil=>simp
 |cons x xs a=>simp only[YE,YZ,JR,Yq,he,DB,Y3]at a⊢;omega
theorem MC{α:Type}(e:α→List D)(xs ys:List α):Af e (xs++ys)=Af e xs++Af e ys:=by simp[Af]
section
variable {P:Program} {n:Nat} {C:Cx} {τ:St} {Q:Exit→St→Prop}
theorem ZyK{c:Code}(id:Nat)(x:Code)(b:c=.block id x)(h:LW P n C x τ (fun e τ'=>match e with|.exit i=>(match Nat.beq i id with|true=>Q .normal τ'|false=>Q (.exit i) τ')|e=>Q e τ')):LW P n C c τ Q:=b▸ZAC (h.mono fun e τ' a=>by
 cases e with
 |exit i=>
  simp only at a⊢
  split at a
  ·rename_i he;rw[Yg (Yd he)];exact a
  ·rename_i he;rw[Yf (by rintro rfl;simp at he)];exact a
 |_=>exact a)
end
theorem Zji{P:Program}{T:Nat→Option TI}{n:Nat}{f:FuncId}{fn:Func}(e:List ResultVar)(c:Code){l:Nat}{xs:List AV}{H:Hp}{a:AV→Hp→Prop}(θ:Nat→AV)(ys:List AV)
  (j:P.funcs[f]?=some fn) (hb:fn.body=some c) (b:(fn.name== "runtime.NumGoroutine")=false) (o:fn.ntmps=n) (r:fn.results.toList=e) (s:xs.length≤n) (g:Bg P T)
  (d:Aq ⟨fun k=>(l+1,k.2),fun _=>0,θ,H,fun _=>False⟩ ys=xs) (h:∀B:Base,LW P n (XU l θ H B) c (Ab (Ec 0 ys) []) (FQ T e 0 (fun y _=>a y H))):ZcW P f l xs H a:=
 Zod e (XU l θ H) (γ:=fun _=>0) (LPost:=fun y _=>a y H) j hb b o r s g (fun B=>jz l B θ H) (fun B=>⟨rfl,rfl,rfl,trivial⟩) (fun B=>d) (fun _=>rfl) (fun _=>rfl) (fun B k m=>by simp[AI,Fj]at m) (fun B i hi=>absurd hi (GO _))
  (fun B γ y u t _ q p hy=>by rw[hy rfl,ZDf p];exact q) h
theorem ZLS{α:Type}(e:α→List D)(xs:List α):BN ((xs.map e).length:Nat) xs.length:=by simp[BN]
theorem Zye{α:Type}{e e':α→List D}{xs:List α}{i:Nat}{x:α}(a:xs[i]?=some x)(he:∀x,e x=e' x):IY (xs.map e) (i:Nat) (e' x):=⟨by omega,by simp[a,he]⟩
theorem ZJy{α:Type}{e e':α→List D}{xs:List α}{i:Nat}{z:α}(hi:i<xs.length)(he:∀x,e x=e' x):IY (xs.map e) (i:Nat) (e' (xs.getD i z)):=by
 refine Zye ?_ he
 grind
theorem tX{a r:Int}(h:a=r)(b: -9223372036854775808≤r)(c:r<9223372036854775808):CB .i64 a r:=by
 subst h;exact IntWalk.i64_in _ ⟨b,by omega⟩
theorem ZWC{i len sz:Nat}(h:i<len):LR (i:Nat) len 0 sz (i*sz):=⟨by omega,by omega,by simp⟩
theorem Zz1{sz:Nat}{e:List D}(C:List AV)(he:e.length=sz):Er sz C (.d (.list [e])) 1 (e.map .d):=by
 refine⟨Yw.2 fun x a=>?_,fun q b=>?_,rfl,by simp⟩
 ·obtain⟨d,_,rfl⟩:=YX.1 a;rfl
 grind
theorem Vu{α:Type}{sz:Nat}{e:α→List D}(C:List AV)(xs:List α)(he:∀x,(e x).length=sz):Er sz C (.d (.list (xs.map e))) xs.length (Af e xs):=by
 refine⟨Yw.2 fun x a=>?_,fun q b=>?_,by simp,rfl⟩
 ·obtain⟨d,_,rfl⟩:=YX.1 a;rfl
 grind
theorem ZBR{α:Type}{sz:Nat}{e:α→List D}(k:Ad)(g:Nat)(xs:List α)(he:∀x,(e x).length=sz):Er sz (Af e xs) (.ref k g 0 xs.length) xs.length (Af e xs):=by
 refine⟨Yw.2 fun x a=>?_,rfl,by rw[DX he];simp,by rw[Hy,Gc,←DX he xs,LB]⟩
 obtain⟨d,_,rfl⟩:=YX.1 a;rfl
theorem ZAT{α:Type}{sz byt:Nat}{e:α→List D}(xs ys:List α){a:Nat}(he:∀x,(e x).length=sz)(b:xs.length+ys.length=a)(hb:a*byt≤140737488355328):
  I9 (Af e xs) 0 xs.length ys.length sz byt (Af e ys) (Af e (xs++ys)) a:=
 ⟨by rw[DX he,YN],by rw[Hy,Gc,MC],b,hb⟩
theorem ZCY{α:Type}(e:α→List D)(x:α):Af e [x]=(e x).map .d:=by simp[Af]
theorem ko{α:Type}{sz:Nat}{e:α→List D}(xs:List α)(b:sz≠0)(he:∀x,(e x).length=sz):Hq (Af e xs) 0 xs.length sz (xs.map e):=
 ⟨by simp,b,fun q a=>by obtain⟨x,_,rfl⟩:=YX.1 a;exact he x,by rw[DX he];simp,by rw[Hy,Gc,←DX he xs,LB];rfl⟩
theorem Zqf{α:Type}{e e':α→List D}{xs:List α}{i:Int}{z:α}(a:0≤i)(hi:i<xs.length)(he:∀x,e x=e' x):IY (xs.map e) i (e' (xs.getD i.toNat z)):=by
 have h:=ZJy (e:=e) (e':=e') (xs:=xs) (i:=i.toNat) (z:=z) (by omega) he
 grind
theorem ZUz(s:ByteArray):s.data.toList.length=s.size:=by simp
theorem ZI9{s:ByteArray}{i:Nat}{x:UInt8}(h:s.data.toList[i]?=some x):I3 s (i:Nat) (x.toNat:Nat):=⟨by omega,x,by simpa using h,rfl⟩
theorem Zvr{s:ByteArray}{i:Nat}(h:i<s.size):I3 s (i:Nat) ((s.data.toList.getD i 0).toNat:Nat):=by
 refine ZI9 ?_
 rw[Yp,Ye (by rw[ZUz];exact h)];rfl
theorem O8{α:Type}{sz byt c:Nat}{e:α→List D}{news:List AV}(xs ys:List α)(he:∀x,(e x).length=sz)(a:ys.length=c)(b:news=Af e ys)(hb:(xs.length+ys.length)*byt≤140737488355328):
  I9 (Af e xs) 0 xs.length c sz byt news (Af e (xs++ys)) (xs++ys).length:=by
 subst a;subst b
 exact ZAT xs ys he (by rw[Yq]) (by rw[Yq];exact hb)
section
variable {P:Program} {l:Nat} {r:Ren} {f:FuncId} {xs xs':List AV} {hb:List (Ad×Blk)} {x x':AV}
def CH(P:Program)(l:Nat)(no:Ad→Prop)(H:Hp)(c:AV)(e:List AV)(y:AV):Prop:=
 ∃f first a,c=.fn (.func f) first a∧∀l' b,l≤l'→(∀k:Ad,k.1≤l→¬no k→b k=H k)→ZcW P f l' (first++e++a) b (fun g d=>g=y∧d=b)
theorem ZzR{i:Nat}{c:AV}(j:r.θ i=c)(h:CH P l r.no r.H0 c xs' x')(d:Aq r xs=xs')(e:ren r x=x'):Qc P l r i xs hb x:=by
 obtain⟨f,first,a,rfl,h⟩:=h
 exact⟨f,first,a,j,fun b _ g=>by rw[d,e];exact h (l+1) b (Nat.le_succ l) g⟩
end
section
variable {P:Program} {T:Nat→Option TI} {n:Nat} {C:Cx} {τ:St} {Q:Exit→St→Prop}
theorem ZL1(g:CxOk C)(k:Bg P T)(hm:P.follows .mixedOrders=true){os:Nat}{fx:List Nat}(d:C.outs=os)(i:C.fx=fx){c:Code}(a:AT)(lf e:Lf)(f:List ResultVar){b:AV→List Blk→Prop}(q:Ren→(Exit→St→Prop)→(AV→List Blk→Prop)→Prop)
  (l:∀r Q b,C4 P T C.l n os r c a τ (KB T f os fx r b lf e Q)=q r Q b) (j:∀τ,FQ T f os b .ret τ→Q .ret τ) (h:∀r,r.θ=C.θ→r.H0=C.H0→r.κ=C.κ→r.no=C.no→q r Q b):LW P n C c τ Q:=
 ZPk g k hm a lf e (by rw[d];exact j) (fun γ=>by rw[d,i,l];exact h _ rfl rfl rfl rfl)
theorem ZJ8(e:CxOk C)(g:Bg P T)(hm:P.follows .mixedOrders=true){os:Nat}(f:C.outs=os){c:Code}(a:AT)(d:List ResultVar){b:AV→List Blk→Prop}(q:Ren→(AV→List Blk→Prop)→Prop)
  (i:∀r b,C4 P T C.l n os r c a τ (KF T d os b)=q r b) (h:∀r,r.θ=C.θ→r.H0=C.H0→r.κ=C.κ→r.no=C.no→q r b):LW P n C c τ (FQ T d os b):=by
 subst f
 exact ZRW e g hm a (fun γ=>by rw[i];exact h _ rfl rfl rfl rfl)
mutual
theorem ZCa{H:Hp}:∀(x:AV) {a:AT} {K c:AV→AT→Prop},(∀y a,K y a→c y a)→frz H x a K→frz H x a c
 |.d x,a,K,c,b,h=>b _ _ h
 |.e0,a,K,c,b,h=>b _ _ h
 |.agg xs,a,K,c,b,h=>Zmh xs (fun ys a h=>b _ _ h) h
 |.ref k g off m,a,K,c,b,h=>by
  unfold frz at h⊢
  grind
 |.top,a,K,c,b,h=>by simp only[frz]at h
 |.p _,a,K,c,b,h=>by simp only[frz]at h
 |.ptr _ _ _,a,K,c,b,h=>by simp only[frz]at h
 |.mp k g,a,K,c,b,h=>by
  unfold frz at h⊢
  grind
 |.iptr _ _,a,K,c,b,h=>by simp only[frz]at h
 |.ifc _ _ _,a,K,c,b,h=>b _ _ h
 |.fn _ _ _,a,K,c,b,h=>by simp only[frz]at h
 |.tup _,a,K,c,b,h=>by simp only[frz]at h
theorem Zmh{H:Hp}:∀(xs:List AV) {a:AT} {K b:List AV→AT→Prop},(∀y a,K y a→b y a)→I5 H xs a K→I5 H xs a b
 |[],a,K,b,c,h=>c _ _ h
 |x::xs,a,K,b,c,h=>by
  simp only[I5]at h⊢
  exact ZCa x (fun y a h=>Zmh xs (fun ys a h=>c _ _ h) h) h
end
end
theorem GR{α:Type}(e:α→List D)(x:α)(xs:List α):Af e (x::xs)=(e x).map .d++Af e xs:=by simp[Af]
theorem Mr{α:Type}{e:α→List D}{sz:Nat}(hl:∀x,(e x).length=sz):∀(xs:List α) (j:Nat),(Af e xs).drop (j*sz)=Af e (xs.drop j)
 |[],j=>by simp[Af]
 |x::xs,0=>by simp
 |x::xs,j+1=>by
  have a:((e x).map AV.d).length=sz:=by rw[YE,hl]
  rw[GR,Y3,Ly,N3,←N1,List.drop_left' a,Mr hl xs j]
  rfl
theorem Vt{α:Type}{e:α→List D}{sz:Nat}(hl:∀x,(e x).length=sz):∀(xs:List α) (j:Nat),(Af e xs).take (j*sz)=Af e (xs.take j)
 |[],j=>by simp[Af]
 |x::xs,0=>by simp[Af]
 |x::xs,j+1=>by
  have a:((e x).map AV.d).length=sz:=by rw[YE,hl]
  rw[GR,List.take_succ_cons,GR,Y3,Ly,N3,List.take_append,a,Nat.add_sub_cancel_left,Vt hl xs j,JL (by omega)]
theorem ZvI{α:Type}{xs:List α}{j:Nat}{z:α}(a:j<xs.length):xs.drop j=xs.getD j z::xs.drop (j+1):=by
 rw[IK a,Yp,Ye a];rfl
theorem Zib{α:Type}{e e':α→List D}{xs:List α}{j sz:Nat}{z:α}(a:j<xs.length)(hl:∀x,(e x).length=sz)(he:∀x,e x=e' x):Ek (Af e xs) (j*sz) ((e' (xs.getD j z)).map .d):=by
 unfold Ek
 rw[Mr hl,ZvI (z:=z) a,GR,he,List.take_left]
theorem Zmj{α:Type}{e e':α→List D}{xs:List α}{j sz o:Nat}{z:α}{c:List AV}(b:j<xs.length)(hl:∀x,(e x).length=sz)(he:∀x,e x=e' x)
  (a:(((e' (xs.getD j z)).map .d).drop o).take c.length=c) (f:o+c.length≤sz):Ek (Af e xs) (j*sz+o) c:=by
 unfold Ek
 have d:((e' (xs.getD j z)).map AV.d).length=sz:=by rw[YE,←he,hl]
 rw[←N1,Mr hl,ZvI (z:=z) b,GR,he,sv (by omega),ZF (by rw[YU];omega),a]
theorem ZHR{α:Type}{e:α→List D}{xs:List α}{j sz:Nat}{y:α}(b:j<xs.length)(hl:∀x,(e x).length=sz):Iz (Af e xs) (j*sz) ((e y).map .d) (Af e (xs.set j y)):=by
 have a:((e y).map AV.d).length=sz:=by rw[YE,hl]
 have c:(j+1)*sz≤xs.length*sz:=Y1 _ b
 rw[Y3,Ly]at c
 refine⟨by rw[a,DX hl];omega,?_⟩
 rw[a,Vt hl,show j*sz+sz=(j+1)*sz from by rw[Y3,Ly],Mr hl,sr,Yg b,MC,GR,EC]
def Dj(r:Ren):List (Ad×Blk)→Hp→Hp
 |[],H=>H
 |(k,b)::rest,H=>Dj r rest (updH H (r.κ k) (AL r k b))
def Ic(P:Program)(l:Nat)(r:Ren)(f:FuncId)(xs:List AV)(d:List (Ad×Blk))(x:AV)(Ax:List (Ad×Blk))(fr:List Ad):Prop:=
 ∀a,(∀p∈d,(a (r.κ p.1)).g=r.γ p.1+p.2.g∧(p.2.live=true→a (r.κ p.1)=AL r p.1 p.2))→(∀k:Ad,k.1≤l→¬r.no k→a k=r.H0 k)→
  ZcW P f (l+1) (Aq r xs) a (fun y b=>∃c:Ad→Nat,(∀k,k∉fr→c k=r.γ k)∧y=ren ⟨r.κ,c,r.θ,r.H0,r.no⟩ x∧b=Dj ⟨r.κ,c,r.θ,r.H0,r.no⟩ Ax a)
mutual
def GW(fr:List Ad):AV→Bool
 |.ref k _ _ _=>fr.any (BM k)
 |.ptr k _ _=>fr.any (BM k)
 |.mp k _=>fr.any (BM k)
 |.fn _ xs ys=>H4 fr xs||H4 fr ys
 |.agg xs=>H4 fr xs
 |.tup xs=>H4 fr xs
 |.top=>false
 |.d _=>false
 |.e0=>false
 |.p _=>false
 |.iptr _ _=>false
 |.ifc _ _ _=>false
def H4(fr:List Ad):List AV→Bool
 |[]=>false
 |x::xs=>GW fr x||H4 fr xs
end
def El(fr:List Ad):List (Nat×AV)→List (Nat×AV)
 |[]=>[]
 |(j,x)::r=>(j,match GW fr x with|true=>.top|false=>x)::El fr r
def C3(ks fr fl:List Ad):List (Ad×Blk)→List (Ad×Blk)
 |[]=>[]
 |(k,b)::r=>match ks.any (BM k),fl.any (BM k)||!H4 fr b.cells with
  |false,true=>(k,b)::C3 ks fr fl r
  |_,_=>C3 (k::ks) fr fl r
def G9:Option Nat→AV→List (Nat×AV)→List (Nat×AV)
 |some d,x,r=>(d,x)::r
 |none,_,r=>r
def BQ(os:Nat)(k:Ad):Bool:=Nat.beq k.1 1||(Nat.beq k.1 0&&Nat.ble (k.2+1) os)
def DN(os:Nat):List (Ad×Blk)→Bool
 |[]=>true
 |(k,b)::r=>BQ os k&&b.live&&!(r.any fun p=>BM k p.1)&&DN os r
mutual
theorem Zjx{r:Ren}{b:Ad→Nat}{fr:List Ad}(a:∀k,k∉fr→b k=r.γ k):∀(x:AV),GW fr x=false→ren ⟨r.κ,b,r.θ,r.H0,r.no⟩ x=ren r x
 |.ref k g off n,h=>by simp only[GW]at h;simp only[ren];rw[a k (VS h)]
 |.ptr k g off,h=>by simp only[GW]at h;simp only[ren];rw[a k (VS h)]
 |.mp k g,h=>by simp only[GW]at h;simp only[ren];rw[a k (VS h)]
 |.fn f xs ys,h=>by
  simp only[GW,Hs]at h
  have c:=Mp a xs h.1
  have d:=Mp a ys h.2
  cases f<;>simp only[ren,c,d]
 |.agg xs,h=>by simp only[GW]at h;simp only[ren,Mp a xs h]
 |.tup xs,h=>by simp only[GW]at h;simp only[ren,Mp a xs h]
 |.top,_=>by simp[ren]
 |.d _,_=>by simp[ren]
 |.e0,_=>by simp[ren]
 |.p _,_=>by simp[ren]
 |.iptr _ _,_=>by simp[ren]
 |.ifc _ _ _,_=>by simp[ren]
theorem Mp{r:Ren}{b:Ad→Nat}{fr:List Ad}(a:∀k,k∉fr→b k=r.γ k):∀(xs:List AV),H4 fr xs=false→Aq ⟨r.κ,b,r.θ,r.H0,r.no⟩ xs=Aq r xs
 |[],_=>by simp[Aq]
 |x::xs,h=>by
  simp only[H4,Hs]at h
  simp only[Aq,Zjx a x h.1,Mp a xs h.2]
theorem VS{k:Ad}{fr:List Ad}(h:fr.any (BM k)=false):k∉fr:=fun hm=>by
 have:fr.any (BM k)=true:=YM.2 ⟨k,hm,Cu.2 rfl⟩
 grind
end
def Cq:Code→Array Oper
 |.region _ ops _=>ops
 |_=>#[]
def yU:Code→Bool
 |.region _ _ false=>true
 |_=>false
def Jp{α:Type}:Nat→List α→List α
 |0,l=>l
 |_+1,[]=>[]
 |n+1,_::l=>Jp n l
def Jo{α:Type}:Nat→List α→List α
 |0,_=>[]
 |_+1,[]=>[]
 |n+1,x::l=>x::Jo n l
theorem jC{α:Type}:∀(n:Nat) (l:List α),Jp n l=l.drop n
 |0,l=>rfl
 |n+1,[]=>rfl
 |n+1,x::l=>jC n l
theorem VL{α:Type}:∀(n:Nat) (l:List α),Jo n l=l.take n
 |0,l=>rfl
 |n+1,[]=>rfl
 |n+1,x::l=>by rw[Jo,VL n l];rfl
def LO(P:Program)(n:Nat)(C:Cx)(c:Code)(k:Nat)(τ:St)(Q:Exit→St→Prop):Prop:=
 ∀γ σ a w,C.G γ→RG (C.r γ) C.l C.outs [] τ σ→R C.l n C.B σ a w→wpList P (Cq c) (fun e d w'=>∃b,Is n C (Q e) b∧R C.l n C.B b d w') ((Cq c).toList.drop k) a w
def GV(c:Code)(k:Nat):Option (Option Nat×Operand×List Operand):=
 match Bu (Cq c).toList k with
 |some o=>(match o.guard,o.op with
  |none,.call cl=>(match cl.callee with|.value f=>some (o.dst,f,cl.args.toList)|_=>none)
  |_,_=>none)
 |none=>none
def Fv(C:Cx):List (Ad×Blk)→Prop
 |[]=>True
 |(k,_)::r=>match Nat.beq k.1 1 with|true=>Fv C r|false=>C.no (C.κ k)∧Fv C r
def Jz(H:Hp):List Ad→Prop
 |[]=>True
 |k::r=>Gq (H k).cells∧Jz H r
def LQ(fr:List Ad)(Ax:List (Ad×Blk)):Bool:=fr.all fun k=>Ax.any fun p=>BM k p.1
def MX(fr:List Ad)(fx:List Nat):Bool:=fr.all fun k=>!(Nat.beq k.1 0&&fx.any (Nat.beq k.2))
def If:List (Ad×Blk)→Bool
 |[]=>true
 |(_,b)::r=>Nat.beq b.g 0&&If r
def ZXM:Option Nat→(Nat→AV)→AV→Nat→AV
 |some d,s,v=>upd s d v
 |none,s,_=>s
def Nm(n:Nat):Option Nat→Bool
 |some d=>Nat.ble (d+1) n
 |none=>true
section
variable {P:Program} {T:Nat→Option TI} {n:Nat} {C:Cx} {τ:St} {Q:Exit→St→Prop}
theorem ZqZ{c:Code}(b:yU c=true)(h:LO P n C c 0 τ Q):LW P n C c τ Q:=by
 cases c with
 |region id ops d=>
  cases d with
  |true=>cases b
  |false=>
   obtain⟨i,rfl⟩:∃l:List Oper,ops=l.toArray:=⟨ops.toList,by simp⟩
   intro γ σ g e a w f
   have:=h γ σ a w g e f
   simp only[Cq,Gc]at this
   exact wp_region_lit this
 |_=>cases b
theorem ZPr(d:CxOk C)(A:Bg P T){os:Nat}{fx:List Nat}(y:C.outs=os)(v:C.fx=fx){c:Code}{k:Nat}(m:Nat)(a:AT)(lf:Lf)(q:Ren→(St→Prop)→Prop)
  (E:∀r Φ,Br r os a τ (fun τ a=>G5 P T C.l n r ((Cq c).toList.map (·.dst)) (Jo m (Jp k (Cq c).toList)) [] a (fun τ' env f=>Br r os f (Et env τ') (fun τ _=>FT fx lf τ Φ)) τ)=q r Φ)
  (h:∀r,r.θ=C.θ→r.H0=C.H0→r.κ=C.κ→r.no=C.no→q r (fun τ'=>LO P n C c (k+m) τ' Q)):LO P n C c k τ Q:=by
 subst y
 subst v
 intro γ σ g w D x z
 have o:=h (C.r γ) rfl rfl rfl rfl
 rw[←E]at o
 obtain⟨R,p,N,u,i,j⟩:=Cm (n:=n) d a o x
 have e:(Cq c).toList.drop k=Jo m (Jp k (Cq c).toList)++(Cq c).toList.drop (k+m):=by
  rw[VL,jC,←N1,FC]
 rw[e]
 refine Ms (d.ren γ) A (B:=C.B) _ (fun τ' l f U b w' J K L=>?_) _ [] p R N g w u i (j _ _ z)
 obtain⟨V,s,t⟩:=O4 (n:=n) K
 obtain⟨X,S,W,f1,f2,f3⟩:=Cm (n:=n) d f J s
 obtain⟨M,Y,O,F,G,H,I⟩:=HW (n:=n) d f1 D f2
 exact G M O b w' F H (I _ _ (f3 _ _ (t _ _ L)))
theorem ZPQ(b:CxOk C)(A:Bg P T){os:Nat}{fx:List Nat}(y:C.outs=os)(v:C.fx=fx){c:Code}{k:Nat}(a:AT)(lf:Lf)(q:Ren→(Exit→St→Prop)→Prop)
  (E:∀r Φ,Br r os a τ (fun τ a=>G5 P T C.l n r ((Cq c).toList.map (·.dst)) (Jp k (Cq c).toList) [] a (fun τ' env d=>Br r os d (Et env τ') (fun τ _=>FT fx lf τ (Φ .normal))) τ)=q r Φ)
  (h:∀r,r.θ=C.θ→r.H0=C.H0→r.κ=C.κ→r.no=C.no→q r Q):LO P n C c k τ Q:=by
 subst y
 subst v
 intro γ σ f w D x z
 have m:=h (C.r γ) rfl rfl rfl rfl
 rw[←E]at m
 obtain⟨O,p,N,u,g,i⟩:=Cm (n:=n) b a m x
 have e:(Cq c).toList.drop k=Jp k (Cq c).toList++[]:=by rw[jC,JU]
 rw[e]
 refine Ms (b.ren γ) A (B:=C.B) _ (fun τ' l d U j w' J K L=>?_) _ [] p O N f w u g (i _ _ z)
 obtain⟨V,s,t⟩:=O4 (n:=n) K
 obtain⟨X,S,W,f1,f2,f3⟩:=Cm (n:=n) b d J s
 obtain⟨M,R,o,F,G,H,I⟩:=HW (n:=n) b f1 D f2
 unfold wpList
 exact⟨o,⟨M,R,o,F,G,H,Wk.refl _⟩,I _ _ (f3 _ _ (t _ _ L))⟩
theorem VN:∀{hs:List (Ad×Blk)},If hs=true→∀k,(AI hs k).g=0
 |[],_,k=>rfl
 |(k',b)::r,h,k=>by
  simp only[If,Yc]at h
  simp only[AI]
  split
  ·exact Yd h.1
  ·exact VN h.2 k
theorem Zn3{k:Ad}{ks:List Ad}:ks.any (BM k)=true↔k∈ks:=by
 rw[YM]
 exact⟨fun⟨q,a,b⟩=>by rw[Cu.1 b];exact a,fun h=>⟨k,h,Cu.2 rfl⟩⟩
theorem ZHr(a b:List (Ad×Blk))(k:Ad):AI (a++b) k=if k∈a.map (·.1)then AI a k else AI b k:=by
 induction a with
 |nil=>simp
 |cons p a f=>
  obtain⟨q,d⟩:=p
  simp only[IB,AI,YZ,YI]
  cases c:BM q k with
  |true=>rw[Yg (.inl (Cu.1 c).symm)]
  |false=>
   have:k≠q:=fun e=>by rw[Cu.2 e.symm]at c;cases c
   grind
theorem O6{fr fl:List Ad}:∀(hs:List (Ad×Blk)) (ks:List Ad) (k:Ad),(k∈ks→AI (C3 ks fr fl hs) k=Fj)∧(k∉ks→(AI (C3 ks fr fl hs) k=AI hs k∧(k∈fl∨H4 fr (AI hs k).cells=false))∨AI (C3 ks fr fl hs) k=Fj)
 |[],ks,k=>⟨fun _=>rfl,fun _=>.inr rfl⟩
 |(q,b)::r,ks,k=>by
  simp only[C3]
  split
  ·rename_i d a
   have f:q∉ks:=fun hm=>by rw[Zn3.2 hm]at d;cases d
   simp only[AI]
   cases c:BM q k with
   |true=>
    have c:=Cu.1 c
    subst c
    refine⟨fun h=>absurd h f,fun _=>.inl ⟨rfl,?_⟩⟩
    simp only[Yz,YL]at a
    rcases a with a|a
    ·exact .inl (Zn3.1 a)
    grind
   |false=>exact O6 r ks k
  ·obtain⟨d,a⟩:=O6 (fr:=fr) (fl:=fl) r (q::ks) k
   refine⟨fun h=>d (YP _ h),fun h=>?_⟩
   by_cases c:k=q
   ·grind
   ·rcases a (fun hm=>(YI.1 hm).elim c h)with⟨i,j⟩|e
    ·have:BM q k=false:=by
      cases g:BM q k with
      |true=>exact absurd (Cu.1 g).symm c
      |false=>rfl
     simp only[AI,this]
     grind
    grind
theorem Vk{r:Ren}:∀(Ax:List (Ad×Blk)) (H:Hp) (q:Ad),(∀p∈Ax,r.κ p.1≠q)→Dj r Ax H q=H q
 |[],H,q,h=>rfl
 |(k,b)::rest,H,q,h=>by
  simp only[Dj]
  rw[Vk rest _ q (fun p a=>h p (YP _ a)),AJ _ _ (fun e=>h (k,b) (YT ..) e.symm)]
theorem ZoI{r:Ren}{os:Nat}(d:∀q k:Ad,BQ os q=true→BQ os k=true→q≠k→r.κ q≠r.κ k):∀(Ax:List (Ad×Blk)) (H:Hp),DN os Ax=true→∀k b,(k,b)∈Ax→Dj r Ax H (r.κ k)=AL r k b∧AI Ax k=b∧BQ os k=true∧b.live=true
 |[],H,_,k,b,hm=>by cases hm
 |(q,c)::rest,H,g,k,b,hm=>by
  simp only[DN,Yc,YL]at g
  obtain⟨⟨⟨i,u⟩,j⟩,m⟩:=g
  have f:∀p∈rest,p.1≠q:=fun p a e=>by
   have:(rest.any fun p=>BM q p.1)=true:=YM.2 ⟨p,a,Cu.2 e.symm⟩
   rw[this]at j;cases j
  have h:∀(l:List (Ad×Blk)),DN os l=true→∀p∈l,BQ os p.1=true:=by
   intro l
   induction l with
   |nil=>intro _ p a;cases a
   |cons p l w=>
    obtain⟨x,y⟩:=p
    intro hl p a
    simp only[DN,Yc]at hl
    rcases YI.1 a with rfl|a
    ·exact hl.1.1.1
    ·exact w hl.2 p a
  simp only[Dj]
  rcases YI.1 hm with e|hm
  ·cases e
   refine⟨?_,by simp only[AI,Cu.2 rfl],i,u⟩
   rw[Vk rest _ _ (fun p a=>d _ _ (h rest m p a) i (f p a)),AQ]
  ·obtain⟨n,o,s,t⟩:=ZoI d rest (updH H (r.κ q) (AL r q c)) m k b hm
   refine⟨n,?_,s,t⟩
   have:BM q k=false:=by
    cases v:BM q k with
    |true=>exact absurd (Cu.1 v).symm (f _ hm)
    |false=>rfl
   simp only[AI,this]
   exact o
theorem pj:∀{Ax:List (Ad×Blk)},Fv C Ax→∀p∈Ax,p.1.1≠1→C.no (C.κ p.1)
 |(k,b)::r,h,p,c,a=>by
  simp only[Fv]at h
  split at h
  ·rename_i d
   rcases YI.1 c with rfl|c
   ·exact absurd (Yd d) a
   ·exact pj h p c a
  ·rcases YI.1 c with rfl|c
   ·exact h.1
   ·exact pj h.2 p c a
theorem o5{H:Hp}:∀{ks:List Ad},Jz H ks→∀k∈ks,Gq (H k).cells
 |q::r,h,k,a=>by
  rcases YI.1 a with rfl|a
  ·exact h.1
  ·exact o5 h.2 k a
theorem Gm{os:Nat}{k:Ad}(h:BQ os k=true):k.1=1∨(k.1=0∧k.2<os):=by
 simp only[BQ,Yz,Yc]at h
 rcases h with h|⟨a,b⟩
 ·exact .inl (Yd h)
 ·exact .inr ⟨Yd a,Yi b⟩
theorem Zoe{fr:List Ad}:∀(ss:List (Nat×AV)) (j:Nat),AP (El fr ss) j=.top∨(AP (El fr ss) j=AP ss j∧GW fr (AP ss j)=false)
 |[],j=>.inl rfl
 |(i,x)::r,j=>by
  simp only[El,AP]
  split
  ·grind
  ·exact Zoe r j
theorem ZBu(hC:CxOk C){os:Nat}{fx:List Nat}(hO:C.outs=os)(hF:C.fx=fx){c:Code}{k:Nat}{ss:List (Nat×AV)}{hs:List (Ad×Blk)}(l:Option Nat)(fo:Operand)(aZ:List Operand)(m:GV c k=some (l,fo,aZ))
  (f:FuncId) (first u xs:List AV) (hf:ev (AP ss) fo=.fn (.func f) first u) (hxs:first++aZ.map (ev (AP ss))++u=xs) (ks:List Ad) (J:List (Ad×Blk)) (hhb:(ks.map fun k=>(k,AI hs k))=J)
  {ι:Type} (I:ι→Prop) (xF:ι→AV) (s:ι→List (Ad×Blk)) (fr fl:List Ad) (M:(MX fr fx&&If hs&&Nm n l&&ks.all (BQ os))=true) (t:∀i,(DN os (s i)&&LQ fr (s i))=true) (H:∀i,Fv C (s i)) (hfl:Jz (AI hs) fl)
  (T:∀r:Ren,r.θ=C.θ→r.H0=C.H0→r.κ=C.κ→r.no=C.no→∀V,(∀p∈J,(V (r.κ p.1)).g=r.γ p.1+p.2.g∧(p.2.live=true→V (r.κ p.1)=AL r p.1 p.2))→(∀k:Ad,k.1≤C.l→¬r.no k→V k=r.H0 k)→
   ZcW P f (C.l+1) (Aq r xs) V (fun y W=>∃i,I i∧∃a:Ad→Nat,(∀k,k∉fr→a k=r.γ k)∧y=ren ⟨r.κ,a,r.θ,r.H0,r.no⟩ (xF i)∧W=Dj ⟨r.κ,a,r.θ,r.H0,r.no⟩ (s i) V))
  (h:∀i,I i→LO P n C c (k+1) (Ab (G9 l (xF i) (El fr ss)) (s i++C3 ((s i).map (·.1)) fr fl hs)) Q):LO P n C c k (Ab ss hs) Q:=by
 subst hO
 subst hF
 simp only[Yc]at M
 obtain⟨⟨⟨k3,k4⟩,k5⟩,k6⟩:=M
 intro γ σ act w hg z hR
 have hr:=hC.ren γ
 have hs':∀j,σ.s j=ren (C.r γ) (AP ss j):=fun j=>(z.s j).1 Bc
 have A:∀y:Operand,ev σ.s y=ren (C.r γ) (ev (AP ss) y):=fun y=>KV (c:=[]) z Bc (by cases y<;>rfl)
 unfold GV at m
 split at m
 case h_2=>cases m
 rename_i o ho
 split at m
 case h_2=>cases m
 rename_i cl hgd hopc
 split at m
 case h_2=>cases m
 rename_i fo' hcal
 simp only[Ym,GK]at m
 obtain⟨hd,rfl,rfl⟩:=m
 rw[Cp]at ho
 have hlt:k<(Cq c).toList.length:=by
  grind
 have U:(Cq c).toList.drop k=o::(Cq c).toList.drop (k+1):=by
  rw[IK hlt]
  grind
 rw[U]
 have L:∀q k:Ad,BQ C.outs q=true→BQ C.outs k=true→q≠k→(C.r γ).κ q≠(C.r γ).κ k:=fun q k Z h2 h3=>hr.ne (Gm Z) (Gm h2) h3
 have hA:=T (C.r γ) rfl rfl rfl rfl σ.H (fun p E=>by
  rw[←hhb]at E
  obtain⟨q,g,rfl⟩:=YX.1 E
  have hq':=Gm (Yw.1 k6 q g)
  refine⟨?_,fun hl=>z.h q hl⟩
  obtain⟨q1,q2⟩:=q
  simp only at hq'
  rcases hq' with rfl|⟨rfl,h2⟩
  ·have:=z.g q2
   rw[←hr.own]at this
   exact this
  ·exact z.go q2 h2) z.o
 have S:Aq (C.r γ) xs=Aq (C.r γ) first++cl.args.toList.map (ev σ.s)++Aq (C.r γ) u:=by
  rw[←hxs,GT,GT]
  congr 2
  rw[FH,IP]
  exact FD fun y _=>(A y).symm
 have hfe:ev σ.s fo'=.fn (.func f) (Aq (C.r γ) first) (Aq (C.r γ) u):=by rw[A,hf];simp[ren]
 have hrop:BJ P C.l n o (fun σ'=>∃i,I i∧∃a:Ad→Nat,(∀q,q∉fr→a q=γ q)∧σ'=⟨ZXM l σ.s (ren (C.r a) (xF i)),Dj (C.r a) (s i) σ.H⟩) σ:=by
  unfold BJ
  rw[hopc]
  simp only[hcal,hfe]
  rw[S]at hA
  refine hA.mono fun y W ⟨i,hi,a,N,e2,e3⟩=>?_
  unfold OB CD
  rw[hd]
  cases l with
  |none=>exact⟨i,hi,a,N,by rw[e3];rfl⟩
  |some d=>exact⟨Yi k5,i,hi,a,N,by rw[e2,e3];rfl⟩
 refine iP (by simp[Region.wanted,hgd]) (Mx hrop) hR fun σ' Y w' hK O=>?_
 obtain⟨i,hi,a,N,rfl⟩:=hK
 have h:=h i hi
 have H:=H i
 have t:=t i
 generalize s i=Ax at h H t O
 generalize xF i=x at h O
 simp only[Yc]at t
 obtain⟨k1,k2⟩:=t
 have hsub:∀q,q∈fr→∃b,(q,b)∈Ax:=fun q g=>by
  obtain⟨p,E,hk⟩:=YM.1 (Yw.1 k2 q g)
  rw[Cu.1 hk];exact⟨p.2,E⟩
 let τ2:St:=Ab (G9 l x (El fr ss)) (Ax++C3 (Ax.map (·.1)) fr fl hs)
 have D:∀q,AI (Ax++C3 (Ax.map (·.1)) fr fl hs) q=if q∈Ax.map (·.1)then AI Ax q else AI (C3 (Ax.map (·.1)) fr fl hs) q:=fun q=>ZHr _ _ _
 have hin:∀q,q∈Ax.map (·.1)→∃b,(q,b)∈Ax:=fun q g=>by obtain⟨p,E,rfl⟩:=YX.1 g;exact⟨p.2,E⟩
 have F:∀q b,(q,b)∈Ax→Dj (C.r a) Ax σ.H ((C.r a).κ q)=AL (C.r a) q b∧AI Ax q=b∧BQ C.outs q=true∧b.live=true:=ZoI (r:=C.r a) L Ax σ.H k1
 have B:∀q,q∉Ax.map (·.1)→BQ C.outs q=true→Dj (C.r a) Ax σ.H ((C.r a).κ q)=σ.H ((C.r a).κ q)∧a q=γ q:=fun q g v=>by
  refine⟨Vk _ _ _ fun p E=>L _ _ (F p.1 p.2 E).2.2.1 v fun e=>g (YX.2 ⟨p,E,e⟩),N q fun hf=>?_⟩
  grind
 have K:∀q,BQ C.outs q=true→(σ.H (C.κ q)).g=γ q→(Dj (C.r a) Ax σ.H (C.κ q)).g=a q+(AI (Ax++C3 (Ax.map (·.1)) fr fl hs) q).g:=fun q v hq0=>by
  rw[D]
  split
  ·rename_i hm
   obtain⟨b,J⟩:=hin q hm
   obtain⟨a1,X,_⟩:=F q b J
   rw[show C.κ q=(C.r a).κ q from rfl,a1,X]
   rfl
  ·rename_i hm
   obtain⟨a1,X⟩:=B q hm v
   rw[show C.κ q=(C.r a).κ q from rfl,a1,X]
   have:(AI (C3 (Ax.map (·.1)) fr fl hs) q).g=0:=by
    rcases(O6 (fr:=fr) (fl:=fl) hs (Ax.map (·.1)) q).2 hm with⟨e,_⟩|e
    ·rw[e];exact VN k4 q
    ·rw[e];rfl
   rw[this]
   exact hq0
 have hG2:RG (C.r a) C.l C.outs [] τ2 ⟨fun j=>ren (C.r a) (τ2.s j),Dj (C.r a) Ax σ.H⟩:=by
  refine⟨fun j=>⟨fun _=>rfl,fun hn=>absurd Bc hn⟩,fun q g=>?_,fun d=>?_,fun i hi=>?_,fun q g=>?_,fun q g hn=>?_⟩
  ·show Dj (C.r a) Ax σ.H ((C.r a).κ q)=AL (C.r a) q (AI (Ax++C3 (Ax.map (·.1)) fr fl hs) q)
   replace g:(AI (Ax++C3 (Ax.map (·.1)) fr fl hs) q).live=true:=g
   rw[D]at g⊢
   split at g
   ·grind
   ·rename_i hm
    rw[Yf hm]
    rcases(O6 (fr:=fr) (fl:=fl) hs (Ax.map (·.1)) q).2 hm with⟨e,e'⟩|e
    ·rw[e]at g⊢
     have v:=z.k q g
     have t:BQ C.outs q=true:=by
      obtain⟨q1,q2⟩:=q
      simp only at v
      simp only[BQ,Yz,Yc]
      rcases v with rfl|⟨rfl,h2⟩
      ·exact .inl rfl
      ·exact .inr ⟨rfl,sH h2⟩
     obtain⟨a1,X⟩:=B q hm t
     rw[a1]
     have J:=z.h q g
     have G:Aq (C.r a) (AI hs q).cells=Aq (C.r γ) (AI hs q).cells:=by
      rcases e' with e'|e'
      ·rw[HV (o5 hfl q e'),HV (o5 hfl q e')]
      ·exact Mp (r:=C.r γ) N _ e'
     show σ.H ((C.r γ).κ q)=_
     rw[J]
     simp only[AL]
     rw[G,show(C.r a).γ q=a q from rfl,X]
     rfl
    ·rw[e]at g;cases g
  ·have:=K (1,d) rfl (by
    have:=z.g d
    rw[show((Ab ss hs).H (1,d)).g=0 from VN k4 _]at this
    rw[hC.own];exact this)
   rw[hC.own]at this
   exact this
  ·exact K (0,i) (by simp only[BQ,Yz,Yc];exact .inr ⟨rfl,sH hi⟩) (by
    have:=z.go i hi
    rw[show((Ab ss hs).H (0,i)).g=0 from VN k4 _]at this
    exact this)
  ·replace g:(AI (Ax++C3 (Ax.map (·.1)) fr fl hs) q).live=true:=g
   rw[D]at g
   split at g
   ·rename_i hm
    obtain⟨b,J⟩:=hin q hm
    exact Gm (F q b J).2.2.1
   ·rename_i hm
    rcases(O6 (fr:=fr) (fl:=fl) hs (Ax.map (·.1)) q).2 hm with⟨e,e'⟩|e
    ·rw[e]at g;exact z.k q g
    ·rw[e]at g;cases g
  ·show Dj (C.r a) Ax σ.H q=C.H0 q
   rw[Vk _ _ _ fun p E e=>?_]
   ·exact z.o q g hn
   ·by_cases Z:p.1.1=1
    ·obtain⟨⟨p1,p2⟩,p3⟩:=p
     simp only at Z
     subst Z
     rw[show(C.r a).κ (1,p2)=(C.l+1,p2)from hC.own p2]at e
     grind
    ·exact hn (by rw[←e];exact pj H p E Z)
 refine h a _ Y w' (hC.G γ a (fun i hi=>N _ fun hm=>?_) hg) hG2 (R.weaken O fun j=>?_)
 ·have:=Yw.1 k3 _ hm
  simp only[YL,GP]at this
  rcases this with h|h
  ·cases h
  ·have:(C.fx.any (Nat.beq i))=true:=YM.2 ⟨i,hi,by simp⟩
   grind
 ·have old:ren (C.r a) (AP (El fr ss) j)=σ.s j∨ren (C.r a) (AP (El fr ss) j)=.top:=by
   rcases Zoe (fr:=fr) ss j with e|⟨e,e'⟩
   ·right;rw[e];simp[ren]
   ·left
    rw[e,hs' j]
    exact Zjx (r:=C.r γ) N _ e'
  show ren (C.r a) (AP (G9 l x (El fr ss)) j)=_∨ren (C.r a) (AP (G9 l x (El fr ss)) j)=.top
  cases l with
  |none=>exact old
  |some d=>
   simp only[G9,AP,ZXM,upd]
   cases hj:Nat.beq d j with
   |true=>
    have:=Yd hj
    grind
   |false=>
    have:j≠d:=fun e=>by rw[e]at hj;simp at hj
    grind
theorem ZJe(D:CxOk C){os:Nat}{fx:List Nat}(F:C.outs=os)(E:C.fx=fx){c:Code}{k:Nat}{ss:List (Nat×AV)}{hs:List (Ad×Blk)}(e:Option Nat)(l:Operand)(j:List Operand)(q:GV c k=some (e,l,j))
  (f:FuncId) (first d xs:List AV) (G:ev (AP ss) l=.fn (.func f) first d) (t:first++j.map (ev (AP ss))++d=xs) (ks:List Ad) (m:List (Ad×Blk)) (p:(ks.map fun k=>(k,AI hs k))=m)
  (x:AV) (Ax:List (Ad×Blk)) (fr fl:List Ad) (i:(DN os Ax&&LQ fr Ax&&MX fr fx&&If hs&&Nm n e&&ks.all (BQ os))=true) (s:Fv C Ax) (o:Jz (AI hs) fl)
  (g:∀r:Ren,r.θ=C.θ→r.H0=C.H0→r.κ=C.κ→r.no=C.no→Ic P C.l r f xs m x Ax fr)
  (h:LO P n C c (k+1) (Ab (G9 e x (El fr ss)) (Ax++C3 (Ax.map (·.1)) fr fl hs)) Q):LO P n C c k (Ab ss hs) Q:=by
 simp only[Yc]at i
 obtain⟨⟨⟨⟨⟨I,J⟩,K⟩,L⟩,M⟩,N⟩:=i
 exact ZBu D F E e l j q f first d xs G t ks m p (ι:=Unit) (fun _=>True) (fun _=>x) (fun _=>Ax) fr fl (by simp only[Yc];exact⟨⟨⟨K,L⟩,M⟩,N⟩) (fun _=>by simp only[Yc];exact⟨I,J⟩) (fun _=>s) o
  (fun r w z A B u a b=>(g r w z A B u a b).mono fun y v H=>⟨(),trivial,H⟩) fun _ _=>h
end
def Ee(l:Nat)(ks:List Ad):Ad→Ad
 |(0,i)=>match Bu ks i with|some k=>k|none=>(0,0)
 |(_+1,d)=>(l+1,d)
def Hh(a:List Nat):Ad→Nat
 |(0,i)=>match Bu a i with|some g=>g|none=>0
 |(_+1,_)=>0
def Cj(l:Nat)(ks:List Ad)(a:List Nat)(θ:Nat→AV)(H:Hp):Ren:=⟨Ee l ks,Hh a,θ,H,fun k=>k∈ks⟩
def Iy(l:Nat)(ks:List Ad)(a:List Nat)(r:Ren):Prop:=r.κ=Ee l ks∧∀i,i<ks.length→r.γ (0,i)=Hh a (0,i)
def CR(r:Ren):Nat→List Blk→List Blk
 |_,[]=>[]
 |i,b::a=>AL r (0,i) b::CR r (i+1) a
def DH(H:Hp):List Ad→List Blk→Hp
 |k::ks,b::a=>DH (updH H k b) ks a
 |_,_=>H
theorem Mt{r:Ren}{k:Ad}{g:Nat}{e:TypeId}{sz:Nat}{cs:List AV}(h:Gq cs):AL r k ⟨g,true,e,sz,cs⟩=⟨r.γ k+g,true,e,sz,cs⟩:=by
 simp only[AL,HV h]
theorem iZ:∀(ks:List Ad) (a:List Blk) (H:Hp) (q:Ad),q∉ks→DH H ks a q=H q
 |[],a,H,q,h=>by cases a<;>rfl
 |k::ks,[],H,q,h=>rfl
 |k::ks,b::a,H,q,h=>by
  simp only[DH]
  rw[iZ ks a _ q (fun hm=>h (YP _ hm)),AJ _ _ (fun e=>h (by rw[e];exact YT ..))]
theorem Zyx:∀(ks:List Ad) (a:List Blk) (H:Hp),ks.Nodup→∀(j:Nat) (k:Ad) (b:Blk),ks[j]?=some k→a[j]?=some b→DH H ks a k=b
 |[],a,H,_,j,k,b,h,_=>by simp at h
 |q::ks,[],H,_,_,_,_,_,h=>by simp at h
 |q::ks,c::a,H,e,j,k,b,d,hb=>by
  simp only[DH]
  rw[List.nodup_cons]at e
  cases j with
  |zero=>
   simp only[FA,Ym]at d hb
   subst d;subst hb
   rw[iZ ks a _ _ e.1,AQ]
  |succ j=>
   simp only[JK]at d hb
   exact Zyx ks a _ e.2 j k b d hb
theorem Zn6{r:Ren}:∀(a:List Blk) (i j:Nat),(CR r i a)[j]?=(a[j]?).map (AL r (0,i+j))
 |[],i,j=>by simp[CR]
 |b::a,i,0=>by simp[CR]
 |b::a,i,j+1=>by
  simp only[CR,JK,Zn6 a (i+1) j,show i+1+j=i+(j+1)from by omega]
theorem ZhY{P:Program}{T:Nat→Option TI}{n:Nat}{f:FuncId}{fn:Func}(J:List ResultVar)(c:Code){l:Nat}{xs:List AV}{H:Hp}{g:AV→Hp→Prop}(ks:List Ad)(t:List Nat)(fx:List Nat)(θ:Nat→AV)(ys:List AV)(hs:List (Ad×Blk))(LPost:AV→List Blk→Prop)
  (V:P.funcs[f]?=some fn) (hb:fn.body=some c) (s:(fn.name== "runtime.NumGoroutine")=false) (Z:fn.ntmps=n) (hr:fn.results.toList=J) (hx:xs.length≤n) (S:Bg P T)
  (D:∀k∈ks,k.1≤l) (u:ks.Nodup) (W:∀d,AI hs (1,d)=Fj) (F:∀k,(AI hs k).live=true→k.1=0∧k.2<ks.length)
  (R:∀i k,ks[i]?=some k→(H k).g=Hh t (0,i)+(AI hs (0,i)).g∧((AI hs (0,i)).live=true→H k=AL (Cj l ks t θ H) (0,i) (AI hs (0,i))))
  (I:Aq (Cj l ks t θ H) ys=xs)
  (h:∀C,CxOk C→C.outs=ks.length→C.fx=fx→C.l=l→C.H0=H→C.θ=θ→C.κ=Ee l ks→C.no=(fun k=>k∈ks)→LW P n C c (Ab (Ec 0 ys) hs) (FQ T J ks.length LPost))
  (v:∀y b,LPost y b→b.length=ks.length∧(∀x∈b,x.live=true)∧∀r:Ren,r.κ=Ee l ks→r.θ=θ→r.H0=H→r.no=(fun k=>k∈ks)→(∀i∈fx,r.γ (0,i)=Hh t (0,i))→g (ren r y) (DH H ks (CR r 0 b))):ZcW P f l xs H g:=by
 let C:Base→Cx:=fun B=>⟨l,B,Ee l ks,θ,H,ks.length,fun k=>k∈ks,fx,fun γ=>∀i∈fx,γ (0,i)=Hh t (0,i)⟩
 have a:∀i,i<ks.length→ks[i]?=some (Ee l ks (0,i)):=fun i hi=>by
  show _=some (match Bu ks i with|some k=>k|none=>(0,0))
  rw[Cp,Ye hi]
 have E:∀(i:Nat) (k:Ad),ks[i]?=some k→i<ks.length:=fun i k hi=>by
  grind
 have K:∀B,CxOk (C B):=fun B=>by
  refine⟨fun _=>rfl,fun i hi=>D _ (Yj (a i hi)),fun i j hi Y e=>?_,fun k w=>?_,fun γ γ' he A i hi=>by rw[he i hi];exact A i hi⟩
  ·have m:=a i hi
   have o:=a j Y
   rw[show Ee l ks (0,i)=Ee l ks (0,j)from e]at m
   have Q:ks[i]?=ks[j]?:=m.trans o.symm
   exact(List.getElem?_inj hi u).1 Q
  ·obtain⟨i,hi⟩:=YB.1 (show k∈ks from w)
   grind
 refine Zod J C (γ:=Hh t) (LPost:=LPost) (ys:=ys) (hs:=hs) V hb s Z hr hx S K (fun B=>⟨rfl,rfl,rfl,fun i _=>rfl⟩) (fun B=>I) (fun _=>rfl) W (fun B k w=>?_) (fun B i hi=>?_) (fun B γ y b N A hy L _=>?_) (fun B=>h _ (K B) rfl rfl rfl rfl rfl rfl rfl)
 ·obtain⟨m,o⟩:=F k w
  obtain⟨k1,M⟩:=k
  simp only at m o
  subst m
  exact⟨rfl,o,(R M _ (a M o)).2 w⟩
 ·grind
 ·obtain⟨U,z,v⟩:=v y b hy
  have v:=v ((C B).r γ) rfl rfl rfl rfl fun i hi=>A i hi
  have O:N=DH H ks (CR ((C B).r γ) 0 b):=by
   funext q
   by_cases G:q∈ks
   ·obtain⟨i,hi⟩:=YB.1 G
    have X:=E i q hi
    have p:b[i]?=some b[i]:=Ye (by omega)
    have m:=L.live i _ p (z _ (Yj p))
    have o:Ee l ks (0,i)=q:=by
     grind
    rw[show(C B).κ (0,i)=q from o]at m
    rw[m,Zyx ks _ H u i q (AL ((C B).r γ) (0,i) b[i]) hi]
    rw[Zn6,p,YN]
    rfl
   ·rw[iZ ks _ H q G]
    exact L.o q G
  rw[O];exact v
theorem ZmZ{P:Program}{T:Nat→Option TI}{n:Nat}{f:FuncId}{fn:Func}(w:List ResultVar)(c:Code){l:Nat}{xs:List AV}{H:Hp}{a:AV→Hp→Prop}(ks:List Ad)(e:List Nat)(fx:List Nat)(θ:Nat→AV)(ys:List AV)(hs:List (Ad×Blk))(LPost:AV→List Blk→Prop)
  (F:P.funcs[f]?=some fn) (hb:fn.body=some c) (g:(fn.name== "runtime.NumGoroutine")=false) (I:fn.ntmps=n) (J:fn.results.toList=w) (K:xs.length≤n) (D:Bg P T)
  (q:∀k∈ks,k.1≤l) (t:ks.Nodup) (p:∀i,i<ks.length→i∈fx) (G:∀d,AI hs (1,d)=Fj) (s:∀k,(AI hs k).live=true→k.1=0∧k.2<ks.length)
  (B:∀i k,ks[i]?=some k→(H k).g=Hh e (0,i)+(AI hs (0,i)).g∧((AI hs (0,i)).live=true→H k=AL (Cj l ks e θ H) (0,i) (AI hs (0,i))))
  (v:Aq (Cj l ks e θ H) ys=xs)
  (h:∀C,CxOk C→C.outs=ks.length→C.fx=fx→C.l=l→C.H0=H→C.θ=θ→C.κ=Ee l ks→C.no=(fun k=>k∈ks)→LW P n C c (Ab (Ec 0 ys) hs) (FQ T w ks.length LPost))
  (u:∀y b,LPost y b→b.length=ks.length∧(∀x∈b,x.live=true)∧∃Y' bs',(∀r,Iy l ks e r→ren r y=Y')∧(∀r,Iy l ks e r→CR r 0 b=bs')∧a Y' (DH H ks bs')):ZcW P f l xs H a:=by
 refine ZhY w c ks e fx θ ys hs LPost F hb g I J K D q t G s B v h fun y b hy=>?_
 obtain⟨m,o,Y',bs',E,hB,u⟩:=u y b hy
 refine⟨m,o,fun r z _ _ _ A=>?_⟩
 have j:Iy l ks e r:=⟨z,fun i hi=>A i (p i hi)⟩
 rw[E _ j,hB _ j];exact u
theorem Zrl{P:Program}{T:Nat→Option TI}{n:Nat}{f:FuncId}{fn:Func}(v:List ResultVar)(c:Code){l:Nat}{xs:List AV}{H:Hp}{a:AV→Hp→Prop}(ks:List Ad)(g:List Nat)(fx:List Nat)(θ:Nat→AV)(ys:List AV)(hs:List (Ad×Blk))(Y:AV)(j:List Blk){Y':AV}{bs':List Blk}
  (D:P.funcs[f]?=some fn) (hb:fn.body=some c) (e:(fn.name== "runtime.NumGoroutine")=false) (F:fn.ntmps=n) (I:fn.results.toList=v) (J:xs.length≤n) (A:Bg P T)
  (q:∀k∈ks,k.1≤l) (t:ks.Nodup) (p:∀i,i<ks.length→i∈fx) (E:∀d,AI hs (1,d)=Fj) (s:∀k,(AI hs k).live=true→k.1=0∧k.2<ks.length)
  (z:∀i k,ks[i]?=some k→(H k).g=Hh g (0,i)+(AI hs (0,i)).g∧((AI hs (0,i)).live=true→H k=AL (Cj l ks g θ H) (0,i) (AI hs (0,i))))
  (u:Aq (Cj l ks g θ H) ys=xs) (m:j.length=ks.length) (o:∀b∈j,b.live=true) (B:∀r,Iy l ks g r→ren r Y=Y') (hB:∀r,Iy l ks g r→CR r 0 j=bs')
  (h:∀C,CxOk C→C.outs=ks.length→C.fx=fx→C.l=l→C.H0=H→C.θ=θ→C.κ=Ee l ks→C.no=(fun k=>k∈ks)→LW P n C c (Ab (Ec 0 ys) hs) (FQ T v ks.length (fun y b=>y=Y∧b=j)))
  (G:a Y' (DH H ks bs')):ZcW P f l xs H a:=by
 exact ZmZ v c ks g fx θ ys hs (fun y b=>y=Y∧b=j) D hb e F I J A q t p E s z u h fun y b ⟨w,x⟩=>by subst w;subst x;exact⟨m,o,Y',bs',B,hB,G⟩
section
variable {P:Program} {l:Nat} {r:Ren} {f:FuncId} {xs xs':List AV} {hb Ax:List (Ad×Blk)} {x x':AV}
theorem ZAn(e:Aq r xs=xs')(g:ren r x=x')(h:∀a,(∀p∈hb,(a (r.κ p.1)).g=r.γ p.1+p.2.g∧(p.2.live=true→a (r.κ p.1)=AL r p.1 p.2))→(∀k:Ad,k.1≤l→¬r.no k→a k=r.H0 k)→ZcW P f (l+1) xs' a (fun y b=>y=x'∧b=Dj r Ax a)):
  Ic P l r f xs hb x Ax []:=fun a hb i=>by
 rw[e]
 exact(h a hb i).mono fun y b ⟨c,d⟩=>⟨r.γ,fun _ _=>rfl,by rw[c,←g],d⟩
end
theorem Zpr{α:Type}{e:α→List D}{r:Ren}{k:Ad}(xs:List α):FX r k (Af e xs):=by
 unfold FX
 rw[HV (A6 e xs)]
 refine Yw.2 fun x a=>?_
 obtain⟨d,_,rfl⟩:=YX.1 a
 rfl
theorem ZuD{r:Ren}{k:Ad}{vs:List AV}(h:(Aq r vs).all (AV.low (r.κ k).1)=true):FX r k vs:=h
theorem ud{r:Ren}{k:Ad}(ds:List D):FX r k (ds.map .d):=by
 unfold FX
 rw[H7]
 refine Yw.2 fun x a=>?_
 obtain⟨d,_,rfl⟩:=YX.1 a
 rfl
theorem ZjX{α:Type}(e:α→List D)(xs:List α):FK (Af e xs):=fun x a=>by
 obtain⟨d,_,rfl⟩:=YX.1 a;rfl
theorem ZCU{α:Type}{e:α→List D}{xs:List α}{off cn sz:Nat}{z:List AV}(hl:∀x,(e x).length=sz)(h:off+cn≤xs.length):
  fV (Af e xs) off cn sz z ((Af e xs).take (off*sz)++(List.replicate cn z).flatten++(Af e xs).drop ((off+cn)*sz)):=by
 refine⟨?_,rfl⟩
 rw[DX hl]
 exact Y1 _ h
theorem ZBC{α:Type}{e:α→List D}{xs:List α}{off sz:Nat}{A B:List AV}(hl:∀x,(e x).length=sz)(h:off≤xs.length):∃m,((Af e xs).take (off*sz)++A++B).take m=Af e (xs.take off):=by
 refine⟨off*sz,?_⟩
 have a:((Af e xs).take (off*sz)).length=off*sz:=by
  rw[Yu,DX hl]
  exact ID (Y1 _ h)
 rw[EC,ZF (by omega),JL (by omega),Vt hl]
def I8(n:Nat):List (Ad×Blk)→Bool
 |[]=>true
 |(k,_)::r=>Nat.beq k.1 0&&Nat.ble (k.2+1) n&&I8 n r
theorem j9{n:Nat}:∀{hs:List (Ad×Blk)},I8 n hs=true→∀k,(AI hs k).live=true→k.1=0∧k.2<n
 |[],_,k,h=>by simp[AI,Fj]at h
 |(q,b)::r,hi,k,h=>by
  simp only[I8,Yc]at hi
  simp only[AI]at h
  split at h
  ·rename_i a
   have a:=Cu.1 a
   subst a
   exact⟨Yd hi.1.1,Yi hi.1.2⟩
  ·exact j9 hi.2 k h
theorem je{n:Nat}:∀{hs:List (Ad×Blk)},I8 n hs=true→∀d,AI hs (1,d)=Fj
 |[],_,d=>rfl
 |(q,b)::r,hi,d=>by
  simp only[I8,Yc]at hi
  simp only[AI]
  split
  ·rename_i a
   have a:=Cu.1 a
   subst a
   have:=Yd hi.1.1
   grind
  ·exact je hi.2 d
def JI(H:Hp)(r:Ren)(hs:List (Ad×Blk)):Nat→List Ad→Prop
 |_,[]=>True
 |i,k::ks=>((H k).g=r.γ (0,i)+(AI hs (0,i)).g∧((AI hs (0,i)).live=true→H k=AL r (0,i) (AI hs (0,i))))∧JI H r hs (i+1) ks
theorem pm{H:Hp}{r:Ren}{hs:List (Ad×Blk)}:∀{ks:List Ad} {i:Nat},JI H r hs i ks→∀j k,ks[j]?=some k→(H k).g=r.γ (0,i+j)+(AI hs (0,i+j)).g∧((AI hs (0,i+j)).live=true→H k=AL r (0,i+j) (AI hs (0,i+j)))
 |[],i,_,j,k,h=>by simp at h
 |q::ks,i,h,0,k,a=>by
  simp only[FA,Ym]at a
  subst a
  exact h.1
 |q::ks,i,h,j+1,k,a=>by
  have:=pm h.2 j k (by simpa using a)
  grind
def IX(l:Nat):List Ad→Prop
 |[]=>True
 |k::ks=>k.1≤l∧IX l ks
theorem VP{l:Nat}:∀{ks:List Ad},IX l ks→∀k∈ks,k.1≤l
 |q::ks,h,k,a=>by
  rcases YI.1 a with rfl|a
  ·exact h.1
  ·exact VP h.2 k a
def I7:Nat→List Nat
 |0=>[]
 |n+1=>I7 n++[n]
theorem VG:∀{n i:Nat},i<n→i∈I7 n
 |n+1,i,h=>by
  simp only[I7,Y8,Eg]
  rcases YK i n with a|a
  ·exact .inl (VG a)
  grind
theorem ZmV{P:Program}{T:Nat→Option TI}{n:Nat}{f:FuncId}{fn:Func}(u:List ResultVar)(c:Code){l:Nat}{xs:List AV}{H:Hp}{a:AV→Hp→Prop}(ks:List Ad)(g:List Nat)(os:Nat)(θ:Nat→AV)(ys:List AV)(hs:List (Ad×Blk))(Y:AV)(e:List Blk){Y':AV}{bs':List Blk}
  (z:P.funcs[f]?=some fn) (hb:fn.body=some c) (d:(fn.name== "runtime.NumGoroutine")=false) (B:fn.ntmps=n) (E:fn.results.toList=u) (F:xs.length≤n) (w:Bg P T) (s:ks.length=os)
  (p:IX l ks) (q:ks.Nodup) (j:I8 os hs=true) (v:JI H (Cj l ks g θ H) hs 0 ks) (t:Aq (Cj l ks g θ H) ys=xs) (m:e.length=os) (o:∀b∈e,b.live=true) (x:∀r,Iy l ks g r→ren r Y=Y') (hB:∀r,Iy l ks g r→CR r 0 e=bs')
  (h:∀C,CxOk C→C.outs=os→C.fx=I7 os→C.l=l→C.H0=H→C.θ=θ→C.κ=Ee l ks→C.no=(fun k=>k∈ks)→LW P n C c (Ab (Ec 0 ys) hs) (FQ T u os (fun y b=>y=Y∧b=e)))
  (D:a Y' (DH H ks bs')):ZcW P f l xs H a:=by
 subst s
 exact Zrl u c ks g (I7 ks.length) θ ys hs Y e z hb d B E F w (VP p) q (fun i hi=>VG hi) (je j) (j9 j) (fun i k A=>by have:=pm v i k A;rw[YN]at this;exact this) t m o x hB h D
theorem ZqU{α:Type}{e e':α→List D}{xs:List α}{j sz:Nat}{x:α}(b:xs[j]?=some x)(hl:∀x,(e x).length=sz)(he:∀x,e x=e' x):Ek (Af e xs) (j*sz) ((e' x).map .d):=by
 have a:j<xs.length:=by
  grind
 have:=Zib (z:=x) a hl he
 grind
theorem ZLV{P:Program}{l o:Nat}{no b:Ad→Prop}{H j:Hp}{c:AV}{m:List AV}{y:AV}(h:CH P l no H c m y)(hl:l≤o)(i:∀q:Ad,q.1≤l→¬no q→¬b q)(r:∀q:Ad,q.1≤l→¬no q→j q=H q):CH P o b j c m y:=by
 obtain⟨f,first,a,e,h⟩:=h
 exact⟨f,first,a,e,fun l' p g s=>h l' p (CY hl g) fun k d n=>by rw[s k (CY d hl) (i k d n),r k d n]⟩
def ZQQ:Code→Operand
 |.cond o _ _=>o
 |_=>.tmp 0
def FO(c:Code)(k:Nat):Option Nat:=match GV c k with|some (d,_,_)=>d|none=>none
def callF(c:Code)(k:Nat):Operand:=match GV c k with|some (_,f,_)=>f|none=>.tmp 0
def GY(c:Code)(k:Nat):List Operand:=match GV c k with|some (_,_,xs)=>xs|none=>[]
theorem ZpT{P:Program}{n:Nat}{C:Cx}{Q:Exit→St→Prop}(m:CxOk C){os:Nat}{fx:List Nat}(p:C.outs=os)(o:C.fx=fx){c:Code}{k:Nat}{ss:List (Nat×AV)}{hs:List (Ad×Blk)}
  (f:FuncId) (first a xs:List AV) (i:GV c k=some (FO c k,callF c k,GY c k)) (q:ev (AP ss) (callF c k)=.fn (.func f) first a) (l:first++(GY c k).map (ev (AP ss))++a=xs) (ks:List Ad) (hb:List (Ad×Blk)) (e:(ks.map fun k=>(k,AI hs k))=hb)
  (x:AV) (Ax:List (Ad×Blk)) (fr fl:List Ad) (g:(DN os Ax&&LQ fr Ax&&MX fr fx&&If hs&&Nm n (FO c k)&&ks.all (BQ os))=true) (j:Fv C Ax) (d:Jz (AI hs) fl)
  (b:∀r:Ren,r.θ=C.θ→r.H0=C.H0→r.κ=C.κ→r.no=C.no→Ic P C.l r f xs hb x Ax fr)
  (h:LO P n C c (k+1) (Ab (G9 (FO c k) x (El fr ss)) (Ax++C3 (Ax.map (·.1)) fr fl hs)) Q):LO P n C c k (Ab ss hs) Q:=
 ZJe m p o _ _ _ i f first a xs q l ks hb e x Ax fr fl g j d b h
end Go.Eng
namespace Go.Eng
open Go
set_option linter.all false
end Go.Eng
namespace Go.Eng
set_option linter.all false
open Go Go.RowKit Go.Shelf
theorem Zs1{α:Type}{e:α→List D}{xs:List α}{l h:Nat}(q:EZ l h xs.length):EZ l h (xs.map e).length:=by rw[YE];exact q
theorem ZMY{α:Type}{e:α→List D}{xs:List α}{sz:Nat}(he:∀x,(e x).length=sz):∀d,d∈xs.map e→d.length=sz:=fun d h=>by
 grind
theorem Zx9{α:Type}{e:α→List D}{xs:List α}{sz l h:Nat}(he:∀x,(e x).length=sz):NR (xs.map e) sz l h (((xs.drop l).take (h-l)).map e):=
 ⟨ZMY he,by rw[←List.map_drop,←List.map_take]⟩
theorem ZrO{i:Int}{len sz:Nat}(a:0≤i)(h:i<len):LR i len 0 sz (i.toNat*sz):=⟨a,h,by simp⟩
theorem ZBl{α:Type}{e:α→List D}{xs:List α}{j sz a:Nat}{z y:α}{vs:List D}(b:j<xs.length)(hl:∀x,(e x).length=sz)(h:a+vs.length≤sz)(he:e y=(e (xs.getD j z)).take a++vs++(e (xs.getD j z)).drop (a+vs.length)):
  Iz (Af e xs) (j*sz+a) (vs.map .d) (Af e (xs.set j y)):=by
 have d:(j+1)*sz≤xs.length*sz:=Y1 _ b
 rw[Y3,Ly]at d
 refine⟨by rw[YE,DX hl];omega,?_⟩
 have f:xs.getD j z=xs[j]:=by rw[Yp,Ye b];rfl
 rw[f]at he
 have hs:Af e xs=Af e (xs.take j)++((e xs[j]).map .d++Af e (xs.drop (j+1))):=by
  conv=>lhs;rw[←FC j xs,IK b,MC,GR]
 have c:(Af e (xs.take j)).length=j*sz:=by rw[DX hl,Yu,ID (by omega)]
 have g:((e xs[j]).map AV.d).length=sz:=by rw[YE,hl]
 rw[hs,List.take_append,JL (by omega:(Af e (xs.take j)).length≤j*sz+a),c,show j*sz+a-j*sz=a from by omega,ZF (by omega),
  List.drop_append,sD (by rw[c];omega),c,Hu,show j*sz+a+(vs.map AV.d).length-j*sz=a+vs.length from by rw[YE];omega,sv (by omega),
  sr,Yg b,MC,GR,he]
 simp only[Eh,List.map_take,List.map_drop,EC]
end Go.Eng
namespace Go.Eng
set_option linter.all false
theorem VE{α:Type}{l:List α}{p:α→Bool}:((match l.findIdx? p with|some k=>(k:Int)|none=>-1)≥0)↔l.any p=true:=by
 rw[YM]
 cases h:l.findIdx? p with
 |none=>
  rw[NV]at h
  constructor
  ·intro e;exact absurd e (by decide)
  ·rintro⟨x,d,a⟩;rw[h x d]at a;cases a
 |some k=>
  obtain⟨b,c,_⟩:=II.1 h
  exact⟨fun _=>⟨l[k],IC b,c⟩,fun _=>Int.natCast_nonneg k⟩
theorem ZAQ{α:Type}{e e':α→List D}{xs:List α}{j sz:Nat}{y:α}(a:j<xs.length)(hl:∀x,(e x).length=sz)(he:∀x,e x=e' x):Iz (Af e xs) (j*sz) ((e' y).map .d) (Af e (xs.set j y)):=by
 rw[←he];exact ZHR a hl
theorem Zml{α:Type}{sz:Nat}{e e':α→List D}{y:α}(C:List AV)(hl:∀x,(e x).length=sz)(he:∀x,e x=e' x):Er sz C (.d (.list [e' y])) 1 (Af e [y]):=by
 rw[ZCY,he];exact Zz1 C (by rw[←he];exact hl y)
theorem ZLw{C:List AV}{o n m sz:Nat}{es:List (List D)}(h:n=m)(k:Hq C o m sz es):Hq C o n sz es:=h▸k
theorem ZMC{α:Type}{e:α→List D}{xs:List α}{n m off sz:Nat}(a:n=m)(h:off≤xs.length)(hl:∀x,(e x).length=sz):n=m∧off*sz≤(Af e xs).length∧(Af e xs).drop (off*sz)=Af e (xs.drop off):=
 ⟨a,by rw[DX hl];exact Y1 _ h,Mr hl xs off⟩
theorem ZJk{α:Type}{e:α→List D}{z:α}{c:List AV}(a:(e z).map .d=c)(m:Nat):(List.replicate m c).flatten=Af e (List.replicate m z):=by
 subst a
 induction m with
 |zero=>rfl
 |succ m b=>rw[ZE,JR,b,ZE,GR]
end Go.Eng
namespace Go.Eng
set_option linter.all false
open Go Go.RowKit
section
variable {P:Program} {T:Nat→Option TI} {n:Nat} {C:Cx} {τ:St} {Q:Exit→St→Prop}
theorem ZJW(f:CxOk C){os:Nat}{fx:List Nat}(k:C.outs=os)(i:C.fx=fx){c:Code}(a:AT)(lf:Lf)(q:Ren→(St→Prop)→Prop)
  (m:∀r Φ,Br r os a τ (fun τ _=>FT fx lf τ Φ)=q r Φ) (h:∀r,r.θ=C.θ→r.H0=C.H0→r.κ=C.κ→r.no=C.no→q r (fun τ'=>LW P n C c τ' Q)):LW P n C c τ Q:=by
 subst k
 subst i
 intro γ σ l j
 have e:=h (C.r γ) rfl rfl rfl rfl
 rw[←m]at e
 obtain⟨y,w,x,g,b,d⟩:=Cm (n:=n) f a e j
 obtain⟨u,z,v,o,p,s,t⟩:=HW (n:=n) f g l b
 exact BR.weak (p u v o s) (d.trans t)
end
theorem ZoW{s:ByteArray}{i:Int}(a:0≤i)(h:i<s.size):I3 s i ((s.data.toList.getD i.toNat 0).toNat:Int):=by
 have:=Zvr (s:=s) (i:=i.toNat) (by omega)
 rwa [Int.toNat_of_nonneg a]at this
end Go.Eng
