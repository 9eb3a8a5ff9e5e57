import Derived.Test.YtleccgigifnfgaaGreatCx08
import Derived.Shelf.Spec.SlicesGrow
import Derived.Test.YtleccgigifnfgaaGreatCx00
namespace Go.Eng
structure Raw where
 num:Int
 wire:Int
 bits:Int
 data:ByteArray
deriving Inhabited,DecidableEq
mutual
inductive Val where
 |mk (kind bits:Int) (text:ByteArray) (list:List Val) (pairs:List Pr) (slots:List Slt) (raws:List Raw)
inductive Pr where
 |mk (key val:Val)
inductive Slt where
 |mk (num:Int) (val:Val)
end
inductive Msk where
 |mk (num:Int) (subs:List Msk)
instance:Inhabited Val:=⟨.mk 0 0 .empty [] [] [] []⟩
instance:Inhabited Pr:=⟨.mk default default⟩
instance:Inhabited Slt:=⟨.mk 0 default⟩
instance:Inhabited Msk:=⟨.mk 0 []⟩
def Val.kind:Val→Int|.mk k _ _ _ _ _ _=>k
def Val.bits:Val→Int|.mk _ b _ _ _ _ _=>b
def Val.text:Val→ByteArray|.mk _ _ t _ _ _ _=>t
def Val.list:Val→List Val|.mk _ _ _ l _ _ _=>l
def Val.pairs:Val→List Pr|.mk _ _ _ _ p _ _=>p
def Val.slots:Val→List Slt|.mk _ _ _ _ _ s _=>s
def Val.raws:Val→List Raw|.mk _ _ _ _ _ _ r=>r
def Pr.key:Pr→Val|.mk k _=>k
def Pr.val:Pr→Val|.mk _ v=>v
def Slt.num:Slt→Int|.mk n _=>n
def Slt.val:Slt→Val|.mk _ v=>v
def Msk.num:Msk→Int|.mk n _=>n
def Msk.subs:Msk→List Msk|.mk _ s=>s
def AC(s:ByteArray):List D:=[.str s]
def z8(s:Int):List D:=[.int .i64 s]
def AO(s:Bool):List D:=[.bool s]
def Au(x:Raw):List D:=[.int .i64 x.num,.int .i64 x.wire,.int .u64 x.bits,.str x.data]
mutual
def Ar:Val→List D
 |.mk k b t l p s r=>[.int .i64 k,.int .u64 b,.str t,.list (Mg l),.list (K7 p),.list (Mm s),.list (r.map Au)]
def Mg:List Val→List (List D)
 |[]=>[]
 |v::vs=>Ar v::Mg vs
def As:Pr→List D
 |.mk k v=>Ar k++Ar v
def K7:List Pr→List (List D)
 |[]=>[]
 |v::vs=>As v::K7 vs
def Ah:Slt→List D
 |.mk n v=>.int .i64 n::Ar v
def Mm:List Slt→List (List D)
 |[]=>[]
 |v::vs=>Ah v::Mm vs
end
mutual
def NP:Msk→List D
 |.mk n s=>[.int .i64 n,.list (VL s)]
def VL:List Msk→List (List D)
 |[]=>[]
 |v::vs=>NP v::VL vs
end
theorem Zwl(l:List Val):Mg l=l.map Ar:=by induction l with|nil=>rfl|cons v l a=>simp[Mg,a]
theorem ZyR(l:List Pr):K7 l=l.map As:=by induction l with|nil=>rfl|cons v l a=>simp[K7,a]
theorem Zrf(l:List Slt):Mm l=l.map Ah:=by induction l with|nil=>rfl|cons v l a=>simp[Mm,a]
theorem ZvQ(l:List Msk):VL l=l.map NP:=by induction l with|nil=>rfl|cons v l a=>simp[VL,a]
def Ai(x:Val):List D:=[.int .i64 x.kind,.int .u64 x.bits,.str x.text,.list (x.list.map Ar),.list (x.pairs.map As),.list (x.slots.map Ah),.list (x.raws.map Au)]
def HF(x:Pr):List D:=[.int .i64 x.key.kind,.int .u64 x.key.bits,.str x.key.text,.list (x.key.list.map Ar),.list (x.key.pairs.map As),.list (x.key.slots.map Ah),.list (x.key.raws.map Au),.int .i64 x.val.kind,.int .u64 x.val.bits,.str x.val.text,.list (x.val.list.map Ar),.list (x.val.pairs.map As),.list (x.val.slots.map Ah),.list (x.val.raws.map Au)]
def Cg(x:Slt):List D:=[.int .i64 x.num,.int .i64 x.val.kind,.int .u64 x.val.bits,.str x.val.text,.list (x.val.list.map Ar),.list (x.val.pairs.map As),.list (x.val.slots.map Ah),.list (x.val.raws.map Au)]
def zG(x:Msk):List D:=[.int .i64 x.num,.list (x.subs.map NP)]
theorem Hg(v:Val):Ar v=Ai v:=by
 cases v;simp[Ar,Ai,Zwl,ZyR,Zrf,Val.kind,Val.bits,Val.text,Val.list,Val.pairs,Val.slots,Val.raws]
theorem L4(v:Pr):As v=HF v:=by cases v;simp[As,Hg,Ai,HF,Pr.key,Pr.val]
theorem IC(v:Slt):Ah v=Cg v:=by cases v;simp[Ah,Hg,Ai,Cg,Slt.num,Slt.val]
theorem ZTu(v:Msk):NP v=zG v:=by cases v;simp[NP,zG,ZvQ,Msk.num,Msk.subs]
structure Typ where
 kind:Int
 name:ByteArray
deriving Inhabited,DecidableEq
def EA(x:Typ):List D:=[.int .i64 x.kind,.str x.name]
structure Nt where
 name:ByteArray
 val:Val
deriving Inhabited
def Ax(x:Nt):List D:=[.str x.name,.int .i64 x.val.kind,.int .u64 x.val.bits,.str x.val.text,.list (x.val.list.map Ar),.list (x.val.pairs.map As),.list (x.val.slots.map Ah),.list (x.val.raws.map Au)]
structure Fld where
 num:Int
 name:ByteArray
 card:Int
 key:Int
 type:Typ
 union:ByteArray
 hasDefault:Bool
 dflt:Val
 notes:List Nt
deriving Inhabited
def Aq(x:Fld):List D:=[.int .i64 x.num,.str x.name,.int .i64 x.card,.int .i64 x.key,.int .i64 x.type.kind,.str x.type.name,.str x.union,.bool x.hasDefault,.int .i64 x.dflt.kind,.int .u64 x.dflt.bits,.str x.dflt.text,.list (x.dflt.list.map Ar),.list (x.dflt.pairs.map As),.list (x.dflt.slots.map Ah),.list (x.dflt.raws.map Au),.list (x.notes.map Ax)]
structure Spn where
 lo:Int
 hi:Int
deriving Inhabited,DecidableEq
def AQ(x:Spn):List D:=[.int .i64 x.lo,.int .i64 x.hi]
structure By where
 b:UInt8
deriving Inhabited,DecidableEq
def By.v(x:By):Int:=x.b.toNat
def eBy(x:By):List D:=[.int .u8 x.v]
structure Msg where
 name:ByteArray
 fields:List Fld
 reserved:List Spn
 gone:List ByteArray
 notes:List Nt
deriving Inhabited
def AE(x:Msg):List D:=[.str x.name,.list (x.fields.map Aq),.list (x.reserved.map AQ),.list (x.gone.map AC),.list (x.notes.map Ax)]
structure Itm where
 name:ByteArray
 num:Int
 notes:List Nt
deriving Inhabited
def Ca(x:Itm):List D:=[.str x.name,.int .i64 x.num,.list (x.notes.map Ax)]
structure Enm where
 name:ByteArray
 opn:Bool
 items:List Itm
 reserved:List Spn
 notes:List Nt
deriving Inhabited
def AP(x:Enm):List D:=[.str x.name,.bool x.opn,.list (x.items.map Ca),.list (x.reserved.map AQ),.list (x.notes.map Ax)]
structure Mth where
 name:ByteArray
 inn:ByteArray
 out:ByteArray
 shape:Int
 notes:List Nt
deriving Inhabited
def GD(x:Mth):List D:=[.str x.name,.str x.inn,.str x.out,.int .i64 x.shape,.list (x.notes.map Ax)]
structure Svc where
 name:ByteArray
 methods:List Mth
 notes:List Nt
deriving Inhabited
def AZ(x:Svc):List D:=[.str x.name,.list (x.methods.map GD),.list (x.notes.map Ax)]
structure Scm where
 messages:List Msg
 enums:List Enm
 services:List Svc
deriving Inhabited
def Av(x:Scm):List D:=[.list (x.messages.map AE),.list (x.enums.map AP),.list (x.services.map AZ)]
structure Fil where
 name:ByteArray
 space:ByteArray
 imports:List ByteArray
 messages:List Msg
 enums:List Enm
 services:List Svc
deriving Inhabited
def ZXP(x:Fil):List D:=[.str x.name,.str x.space,.list (x.imports.map AC),.list (x.messages.map AE),.list (x.enums.map AP),.list (x.services.map AZ)]
structure Prb where
 dfn:ByteArray
 num:Int
 err:Int
deriving Inhabited,DecidableEq
def AD(x:Prb):List D:=[.str x.dfn,.int .i64 x.num,.int .i64 x.err]
structure Stp where
 num:Int
 pos:Int
 hasKey:Bool
 key:Val
deriving Inhabited
structure Edt where
 path:List Stp
 kind:Int
 val:Val
deriving Inhabited
class Mv (V:Type) where
 q:Bool
 e:V→List D
 z:V
def A3{V:Type}[Mv V](p:ByteArray×V):List D:=.str p.1::Mv.e p.2
instance:Mv Bool:=⟨false,AO,false⟩
instance:Mv Int:=⟨false,z8,0⟩
instance:Mv Msg:=⟨true,AE,⟨⟨#[]⟩,[],[],[],[]⟩⟩
instance:Mv (List Int):=⟨false,fun x=>[.list (x.map z8)],[]⟩
instance (V:Type) [Mv V]:Mv (List (ByteArray×V)):=⟨false,fun m=>[.map (Mv.q V) (m.map A3)],[]⟩
structure Web where
 messages:List (ByteArray×Msg)
 enums:List (ByteArray×Bool)
deriving Inhabited
def Je(x:Web):List D:=[.map true (x.messages.map A3),.map false (x.enums.map A3)]
structure Lst where
 dfn:ByteArray
 l:List Prb
deriving Inhabited
structure Acs where
 m:Msg
 s:Scm
deriving Inhabited
def F7(x:Acs):List D:=[.str x.m.name,.list (x.m.fields.map Aq),.list (x.m.reserved.map AQ),.list (x.m.gone.map AC),.list (x.m.notes.map Ax),.list (x.s.messages.map AE),.list (x.s.enums.map AP),.list (x.s.services.map AZ)]
structure Lnk where
 files:List Fil
 f:Fil
 known:List ByteArray
 messages:List ByteArray
 enums:List Enm
deriving Inhabited
def ZXC:Raw:=⟨0,0,0,⟨#[]⟩⟩
def Lb:Val:=.mk 0 0 ⟨#[]⟩ [] [] [] []
def zPr:Pr:=.mk Lb Lb
def ZWW:Slt:=.mk 0 Lb
def ZXO:Msk:=.mk 0 []
def ZXm:Typ:=⟨0,⟨#[]⟩⟩
def zNt:Nt:=⟨⟨#[]⟩,Lb⟩
def ZWM:Fld:=⟨0,⟨#[]⟩,0,0,ZXm,⟨#[]⟩,false,Lb,[]⟩
def ZW9:Spn:=⟨0,0⟩
def zBy:By:=⟨0⟩
def ZWV:Msg:=⟨⟨#[]⟩,[],[],[],[]⟩
def ZXl:Itm:=⟨⟨#[]⟩,0,[]⟩
def ZWS:Enm:=⟨⟨#[]⟩,false,[],[],[]⟩
def ZWx:Mth:=⟨⟨#[]⟩,⟨#[]⟩,⟨#[]⟩,0,[]⟩
def ZWX:Svc:=⟨⟨#[]⟩,[],[]⟩
def ZXN:Fil:=⟨⟨#[]⟩,⟨#[]⟩,[],[],[],[]⟩
def ZXs:Prb:=⟨⟨#[]⟩,0,0⟩
end Go.Eng
namespace Go.Eng
set_option linter.all false
open Go Go.RowKit
def HD:List Nat→Code→Code
 |[],c=>c
 |0::p,.seq a _=>HD p a
 |_::p,.seq _ b=>HD p b
 |0::p,.cond _ a _=>HD p a
 |_::p,.cond _ _ b=>HD p b
 |_::p,.block _ c=>HD p c
 |_::p,.loop c=>HD p c
 |_::p,.scope c=>HD p c
 |_,c=>c
def AB(f:Func):Code:=f.body.getD .skip
def Af{α:Type}(e:α→List D)(xs:List α):List AV:=((xs.map e).flatten).map .d
theorem A0{α:Type}(e:α→List D)(xs:List α):FW (Af e xs):=fun x a=>by
 obtain⟨d,_,rfl⟩:=Y3.1 a;rfl
theorem Dy{α:Type}{e:α→List D}{sz:Nat}(he:∀x,(e x).length=sz)(xs:List α):(Af e xs).length=xs.length*sz:=by
 unfold Af
 induction xs with
 |nil=>simp
 |cons x xs a=>simp only[YO,CF,I2,Yx,he,CV,Y0]at a⊢;omega
theorem LJ{α:Type}(e:α→List D)(xs ys:List α):Af e (xs++ys)=Af e xs++Af e ys:=by simp[Af]
section
variable {P:Program} {n:Nat} {C:Cx} {τ:St} {Q:Exit→St→Prop}
theorem Zri{c:Code}(id:Nat)(x:Code)(b:c=.block id x)(h:LW P n C x τ (fun e τ'=>match e with|.exit i=>(match Nat.beq i id with|true=>Q .normal τ'|false=>Q (.exit i) τ')|e=>Q e τ')):LW P n C c τ Q:=b▸ZAe (h.mono fun e τ' a=>by
 cases e with
 |exit i=>
  simp only at a⊢
  split at a
  ·rename_i he;rw[Yq (Ye he)];exact a
  ·rename_i he;rw[Ys (by rintro rfl;simp at he)];exact a
 |_=>exact a)
end
theorem Zjm{P:Program}{T:Nat→Option TI}{n:Nat}{f:FuncId}{fn:Func}(e:List ResultVar)(c:Code){l:Nat}{xs:List AV}{H:Hp}{a:AV→Hp→Prop}(θ:Nat→AV)(ys:List AV)
  (j:P.funcs[f]?=some fn) (hb:fn.body=some c) (b:(fn.name== "runtime.NumGoroutine")=false) (o:fn.ntmps=n) (r:fn.results.toList=e) (s:xs.length≤n) (g:Ba P T)
  (d:Ao ⟨fun k=>(l+1,k.2),fun _=>0,θ,H,fun _=>False⟩ ys=xs) (h:∀B:Base,LW P n (Wu l θ H B) c (Ab (DO 0 ys) []) (FQ T e 0 (fun y _=>a y H))):ZcN P f l xs H a:=
 Zn7 e (Wu l θ H) (γ:=fun _=>0) (LPost:=fun y _=>a y H) j hb b o r s g (fun B=>gv l B θ H) (fun B=>⟨rfl,rfl,rfl,trivial⟩) (fun B=>d) (fun _=>rfl) (fun _=>rfl) (fun B k m=>by simp[AH,EV]at m) (fun B i hi=>absurd hi (HX _))
  (fun B γ y u t _ q p hy=>by rw[hy rfl,ZzM p];exact q) h
theorem ZHQ{α:Type}(e:α→List D)(xs:List α):Bx ((xs.map e).length:Nat) xs.length:=by simp[Bx]
theorem ZsQ{α:Type}{e e':α→List D}{xs:List α}{i:Nat}{x:α}(a:xs[i]?=some x)(he:∀x,e x=e' x):Iv (xs.map e) (i:Nat) (e' x):=⟨by omega,by simp[a,he]⟩
theorem ZHG{α:Type}{e e':α→List D}{xs:List α}{i:Nat}{z:α}(hi:i<xs.length)(he:∀x,e x=e' x):Iv (xs.map e) (i:Nat) (e' (xs.getD i z)):=by
 refine ZsQ ?_ he
 grind
theorem rG{a r:Int}(h:a=r)(b: -9223372036854775808≤r)(c:r<9223372036854775808):Cj .i64 a r:=by
 subst h;exact IntWalk.i64_in _ ⟨b,by omega⟩
theorem ZSG{i len sz:Nat}(h:i<len):KU (i:Nat) len 0 sz (i*sz):=⟨by omega,by omega,by simp⟩
theorem Zyj{sz:Nat}{e:List D}(C:List AV)(he:e.length=sz):ED sz C (.d (.list [e])) 1 (e.map .d):=by
 refine⟨YB.2 fun x a=>?_,fun q b=>?_,rfl,by simp⟩
 ·obtain⟨d,_,rfl⟩:=Y3.1 a;rfl
 grind
theorem gk{α:Type}{sz:Nat}{e:α→List D}(C:List AV)(xs:List α)(he:∀x,(e x).length=sz):ED sz C (.d (.list (xs.map e))) xs.length (Af e xs):=by
 refine⟨YB.2 fun x a=>?_,fun q b=>?_,by simp,rfl⟩
 ·obtain⟨d,_,rfl⟩:=Y3.1 a;rfl
 grind
theorem Zy5{α:Type}{sz:Nat}{e:α→List D}(k:Ad)(g:Nat)(xs:List α)(he:∀x,(e x).length=sz):ED sz (Af e xs) (.ref k g 0 xs.length) xs.length (Af e xs):=by
 refine⟨YB.2 fun x a=>?_,rfl,by rw[Dy he];simp,by rw[GU,Gh,←Dy he xs,Kx]⟩
 obtain⟨d,_,rfl⟩:=Y3.1 a;rfl
theorem ZAu{α:Type}{sz byt:Nat}{e:α→List D}(xs ys:List α){a:Nat}(he:∀x,(e x).length=sz)(b:xs.length+ys.length=a)(hb:a*byt≤140737488355328):
  Jd (Af e xs) 0 xs.length ys.length sz byt (Af e ys) (Af e (xs++ys)) a:=
 ⟨by rw[Dy he,YW],by rw[GU,Gh,LJ],b,hb⟩
theorem Zyt{α:Type}(e:α→List D)(x:α):Af e [x]=(e x).map .d:=by simp[Af]
theorem iz{α:Type}{sz:Nat}{e:α→List D}(xs:List α)(b:sz≠0)(he:∀x,(e x).length=sz):GT (Af e xs) 0 xs.length sz (xs.map e):=
 ⟨by simp,b,fun q a=>by obtain⟨x,_,rfl⟩:=Y3.1 a;exact he x,by rw[Dy he];simp,by rw[GU,Gh,←Dy he xs,Kx];rfl⟩
theorem ZoQ{α:Type}{e e':α→List D}{xs:List α}{i:Int}{z:α}(a:0≤i)(hi:i<xs.length)(he:∀x,e x=e' x):Iv (xs.map e) i (e' (xs.getD i.toNat z)):=by
 have h:=ZHG (e:=e) (e':=e') (xs:=xs) (i:=i.toNat) (z:=z) (by omega) he
 grind
theorem ZSp(s:ByteArray):s.data.toList.length=s.size:=by simp
theorem ZHB{s:ByteArray}{i:Nat}{x:UInt8}(h:s.data.toList[i]?=some x):Ih s (i:Nat) (x.toNat:Nat):=⟨by omega,x,by simpa using h,rfl⟩
theorem Zuh{s:ByteArray}{i:Nat}(h:i<s.size):Ih s (i:Nat) ((s.data.toList.getD i 0).toNat:Nat):=by
 refine ZHB ?_
 rw[YE,Yn (by rw[ZSp];exact h)];rfl
theorem TT{α:Type}{sz byt c:Nat}{e:α→List D}{news:List AV}(xs ys:List α)(he:∀x,(e x).length=sz)(a:ys.length=c)(b:news=Af e ys)(hb:(xs.length+ys.length)*byt≤140737488355328):
  Jd (Af e xs) 0 xs.length c sz byt news (Af e (xs++ys)) (xs++ys).length:=by
 subst a;subst b
 exact ZAu xs ys he (by rw[Yx]) (by rw[Yx];exact hb)
section
variable {P:Program} {l:Nat} {r:Ren} {f:FuncId} {xs xs':List AV} {hb:List (Ad×Blk)} {x x':AV}
def Cr(P:Program)(l:Nat)(no:Ad→Prop)(H:Hp)(c:AV)(g:List AV)(y:AV):Prop:=
 ∃f first a,c=.fn (.func f) first a∧∀e b,l≤e→(∀k:Ad,k.1≤l→¬no k→b k=H k)→ZcN P f e (first++g++a) b (fun h d=>h=y∧d=b)
theorem Zyq{i:Nat}{c:AV}(j:r.θ i=c)(h:Cr P l r.no r.H0 c xs' x')(d:Ao r xs=xs')(e:ren r x=x'):Ps P l r i xs hb x:=by
 obtain⟨f,first,a,rfl,h⟩:=h
 exact⟨f,first,a,j,fun b _ g=>by rw[d,e];exact h (l+1) b (Nat.le_succ l) g⟩
end
section
variable {P:Program} {T:Nat→Option TI} {n:Nat} {C:Cx} {τ:St} {Q:Exit→St→Prop}
theorem ZKm(g:CxOk C)(k:Ba P T)(hm:P.follows .mixedOrders=true){os:Nat}{fx:List Nat}(d:C.outs=os)(i:C.fx=fx){c:Code}(a:AT)(lf e:Lf)(f:List ResultVar){b:AV→List Blk→Prop}(q:Ren→(Exit→St→Prop)→(AV→List Blk→Prop)→Prop)
  (l:∀r Q b,Cy P T C.l n os r c a τ (KB T f os fx r b lf e Q)=q r Q b) (j:∀τ,FQ T f os b .ret τ→Q .ret τ) (h:∀r,r.θ=C.θ→r.H0=C.H0→r.κ=C.κ→r.no=C.no→q r Q b):LW P n C c τ Q:=
 ZND g k hm a lf e (by rw[d];exact j) (fun γ=>by rw[d,i,l];exact h _ rfl rfl rfl rfl)
theorem ZIt(e:CxOk C)(g:Ba P T)(hm:P.follows .mixedOrders=true){os:Nat}(f:C.outs=os){c:Code}(a:AT)(d:List ResultVar){b:AV→List Blk→Prop}(q:Ren→(AV→List Blk→Prop)→Prop)
  (i:∀r b,Cy P T C.l n os r c a τ (KF T d os b)=q r b) (h:∀r,r.θ=C.θ→r.H0=C.H0→r.κ=C.κ→r.no=C.no→q r b):LW P n C c τ (FQ T d os b):=by
 subst f
 exact ZOY e g hm a (fun γ=>by rw[i];exact h _ rfl rfl rfl rfl)
mutual
theorem ZyK{H:Hp}:∀(x:AV) {a:AT} {K c:AV→AT→Prop},(∀y a,K y a→c y a)→frz H x a K→frz H x a c
 |.d x,a,K,c,b,h=>b _ _ h
 |.e0,a,K,c,b,h=>b _ _ h
 |.agg xs,a,K,c,b,h=>ZkX xs (fun ys a h=>b _ _ h) h
 |.ref k g off m,a,K,c,b,h=>by
  unfold frz at h⊢
  grind
 |.top,a,K,c,b,h=>by simp only[frz]at h
 |.p _,a,K,c,b,h=>by simp only[frz]at h
 |.ptr _ _ _,a,K,c,b,h=>by simp only[frz]at h
 |.mp k g,a,K,c,b,h=>by
  unfold frz at h⊢
  grind
 |.iptr _ _,a,K,c,b,h=>by simp only[frz]at h
 |.ifc _ _ _,a,K,c,b,h=>b _ _ h
 |.fn _ _ _,a,K,c,b,h=>by simp only[frz]at h
 |.tup _,a,K,c,b,h=>by simp only[frz]at h
theorem ZkX{H:Hp}:∀(xs:List AV) {a:AT} {K b:List AV→AT→Prop},(∀y a,K y a→b y a)→Ij H xs a K→Ij H xs a b
 |[],a,K,b,c,h=>c _ _ h
 |x::xs,a,K,b,c,h=>by
  simp only[Ij]at h⊢
  exact ZyK x (fun y a h=>ZkX xs (fun ys a h=>c _ _ h) h) h
end
end
theorem Gl{α:Type}(e:α→List D)(x:α)(xs:List α):Af e (x::xs)=(e x).map .d++Af e xs:=by simp[Af]
theorem LG{α:Type}{e:α→List D}{sz:Nat}(hl:∀x,(e x).length=sz):∀(xs:List α) (j:Nat),(Af e xs).drop (j*sz)=Af e (xs.drop j)
 |[],j=>by simp[Af]
 |x::xs,0=>by simp
 |x::xs,j+1=>by
  have a:((e x).map AV.d).length=sz:=by rw[YO,hl]
  rw[Gl,Y0,Kv,M7,←M5,List.drop_left' a,LG hl xs j]
  rfl
theorem TP{α:Type}{e:α→List D}{sz:Nat}(hl:∀x,(e x).length=sz):∀(xs:List α) (j:Nat),(Af e xs).take (j*sz)=Af e (xs.take j)
 |[],j=>by simp[Af]
 |x::xs,0=>by simp[Af]
 |x::xs,j+1=>by
  have a:((e x).map AV.d).length=sz:=by rw[YO,hl]
  rw[Gl,List.take_succ_cons,Gl,Y0,Kv,M7,List.take_append,a,Nat.add_sub_cancel_left,TP hl xs j,QE (by omega)]
theorem Zxd{α:Type}{xs:List α}{j:Nat}{z:α}(a:j<xs.length):xs.drop j=xs.getD j z::xs.drop (j+1):=by
 rw[Jb a,YE,Yn a];rfl
theorem Zid{α:Type}{e e':α→List D}{xs:List α}{j sz:Nat}{z:α}(a:j<xs.length)(hl:∀x,(e x).length=sz)(he:∀x,e x=e' x):DX (Af e xs) (j*sz) ((e' (xs.getD j z)).map .d):=by
 unfold DX
 rw[LG hl,Zxd (z:=z) a,Gl,he,List.take_left]
theorem Zk9{α:Type}{e e':α→List D}{xs:List α}{j sz o:Nat}{z:α}{c:List AV}(b:j<xs.length)(hl:∀x,(e x).length=sz)(he:∀x,e x=e' x)
  (a:(((e' (xs.getD j z)).map .d).drop o).take c.length=c) (f:o+c.length≤sz):DX (Af e xs) (j*sz+o) c:=by
 unfold DX
 have d:((e' (xs.getD j z)).map AV.d).length=sz:=by rw[YO,←he,hl]
 rw[←M5,LG hl,Zxd (z:=z) b,Gl,he,Qr (by omega),Xe (by rw[Y5];omega),a]
theorem ZHY{α:Type}{e:α→List D}{xs:List α}{j sz:Nat}{y:α}(b:j<xs.length)(hl:∀x,(e x).length=sz):HS (Af e xs) (j*sz) ((e y).map .d) (Af e (xs.set j y)):=by
 have a:((e y).map AV.d).length=sz:=by rw[YO,hl]
 have c:(j+1)*sz≤xs.length*sz:=YZ _ b
 rw[Y0,Kv]at c
 refine⟨by rw[a,Dy hl];omega,?_⟩
 rw[a,TP hl,show j*sz+sz=(j+1)*sz from by rw[Y0,Kv],LG hl,pX,Yq b,LJ,Gl,Ei]
def CZ(r:Ren):List (Ad×Blk)→Hp→Hp
 |[],H=>H
 |(k,b)::rest,H=>CZ r rest (updH H (r.κ k) (AJ r k b))
def Hk(P:Program)(l:Nat)(r:Ren)(f:FuncId)(xs:List AV)(d:List (Ad×Blk))(x:AV)(Az:List (Ad×Blk))(fr:List Ad):Prop:=
 ∀a,(∀p∈d,(a (r.κ p.1)).g=r.γ p.1+p.2.g∧(p.2.live=true→a (r.κ p.1)=AJ r p.1 p.2))→(∀k:Ad,k.1≤l→¬r.no k→a k=r.H0 k)→
  ZcN P f (l+1) (Ao r xs) a (fun y b=>∃c:Ad→Nat,(∀k,k∉fr→c k=r.γ k)∧y=ren ⟨r.κ,c,r.θ,r.H0,r.no⟩ x∧b=CZ ⟨r.κ,c,r.θ,r.H0,r.no⟩ Az a)
mutual
def Gq(fr:List Ad):AV→Bool
 |.ref k _ _ _=>fr.any (Bv k)
 |.ptr k _ _=>fr.any (Bv k)
 |.mp k _=>fr.any (Bv k)
 |.fn _ xs ys=>He fr xs||He fr ys
 |.agg xs=>He fr xs
 |.tup xs=>He fr xs
 |.top=>false
 |.d _=>false
 |.e0=>false
 |.p _=>false
 |.iptr _ _=>false
 |.ifc _ _ _=>false
def He(fr:List Ad):List AV→Bool
 |[]=>false
 |x::xs=>Gq fr x||He fr xs
end
def D0(fr:List Ad):List (Nat×AV)→List (Nat×AV)
 |[]=>[]
 |(j,x)::r=>(j,match Gq fr x with|true=>.top|false=>x)::D0 fr r
def CK(ks fr fl:List Ad):List (Ad×Blk)→List (Ad×Blk)
 |[]=>[]
 |(k,b)::r=>match ks.any (Bv k),fl.any (Bv k)||!He fr b.cells with
  |false,true=>(k,b)::CK ks fr fl r
  |_,_=>CK (k::ks) fr fl r
def GE:Option Nat→AV→List (Nat×AV)→List (Nat×AV)
 |some d,x,r=>(d,x)::r
 |none,_,r=>r
def BD(os:Nat)(k:Ad):Bool:=Nat.beq k.1 1||(Nat.beq k.1 0&&Nat.ble (k.2+1) os)
def Dn(os:Nat):List (Ad×Blk)→Bool
 |[]=>true
 |(k,b)::r=>BD os k&&b.live&&!(r.any fun p=>Bv k p.1)&&Dn os r
mutual
theorem ZjB{r:Ren}{b:Ad→Nat}{fr:List Ad}(a:∀k,k∉fr→b k=r.γ k):∀(x:AV),Gq fr x=false→ren ⟨r.κ,b,r.θ,r.H0,r.no⟩ x=ren r x
 |.ref k g off n,h=>by simp only[Gq]at h;simp only[ren];rw[a k (Ul h)]
 |.ptr k g off,h=>by simp only[Gq]at h;simp only[ren];rw[a k (Ul h)]
 |.mp k g,h=>by simp only[Gq]at h;simp only[ren];rw[a k (Ul h)]
 |.fn f xs ys,h=>by
  simp only[Gq,Ym]at h
  have c:=Lz a xs h.1
  have d:=Lz a ys h.2
  cases f<;>simp only[ren,c,d]
 |.agg xs,h=>by simp only[Gq]at h;simp only[ren,Lz a xs h]
 |.tup xs,h=>by simp only[Gq]at h;simp only[ren,Lz a xs h]
 |.top,_=>by simp[ren]
 |.d _,_=>by simp[ren]
 |.e0,_=>by simp[ren]
 |.p _,_=>by simp[ren]
 |.iptr _ _,_=>by simp[ren]
 |.ifc _ _ _,_=>by simp[ren]
theorem Lz{r:Ren}{b:Ad→Nat}{fr:List Ad}(a:∀k,k∉fr→b k=r.γ k):∀(xs:List AV),He fr xs=false→Ao ⟨r.κ,b,r.θ,r.H0,r.no⟩ xs=Ao r xs
 |[],_=>by simp[Ao]
 |x::xs,h=>by
  simp only[He,Ym]at h
  simp only[Ao,ZjB a x h.1,Lz a xs h.2]
theorem Ul{k:Ad}{fr:List Ad}(h:fr.any (Bv k)=false):k∉fr:=fun hm=>by
 have:fr.any (Bv k)=true:=Y1.2 ⟨k,hm,Cf.2 rfl⟩
 grind
end
def Cc:Code→Array Oper
 |.region _ ops _=>ops
 |_=>#[]
def uH:Code→Bool
 |.region _ _ false=>true
 |_=>false
def IJ{α:Type}:Nat→List α→List α
 |0,l=>l
 |_+1,[]=>[]
 |n+1,_::l=>IJ n l
def IM{α:Type}:Nat→List α→List α
 |0,_=>[]
 |_+1,[]=>[]
 |n+1,x::l=>x::IM n l
theorem gU{α:Type}:∀(n:Nat) (l:List α),IJ n l=l.drop n
 |0,l=>rfl
 |n+1,[]=>rfl
 |n+1,x::l=>gU n l
theorem TV{α:Type}:∀(n:Nat) (l:List α),IM n l=l.take n
 |0,l=>rfl
 |n+1,[]=>rfl
 |n+1,x::l=>by rw[IM,TV n l];rfl
def LO(P:Program)(n:Nat)(C:Cx)(c:Code)(k:Nat)(τ:St)(Q:Exit→St→Prop):Prop:=
 ∀γ σ a w,C.G γ→RG (C.r γ) C.l C.outs [] τ σ→R C.l n C.B σ a w→wpList P (Cc c) (fun e d w'=>∃b,Is n C (Q e) b∧R C.l n C.B b d w') ((Cc c).toList.drop k) a w
def Gt(c:Code)(k:Nat):Option (Option Nat×Operand×List Operand):=
 match Bl (Cc c).toList k with
 |some o=>(match o.guard,o.op with
  |none,.call cl=>(match cl.callee with|.value f=>some (o.dst,f,cl.args.toList)|_=>none)
  |_,_=>none)
 |none=>none
def Fb(C:Cx):List (Ad×Blk)→Prop
 |[]=>True
 |(k,_)::r=>match Nat.beq k.1 1 with|true=>Fb C r|false=>C.no (C.κ k)∧Fb C r
def IS(H:Hp):List Ad→Prop
 |[]=>True
 |k::r=>FW (H k).cells∧IS H r
def Li(fr:List Ad)(Az:List (Ad×Blk)):Bool:=fr.all fun k=>Az.any fun p=>Bv k p.1
def Md(fr:List Ad)(fx:List Nat):Bool:=fr.all fun k=>!(Nat.beq k.1 0&&fx.any (Nat.beq k.2))
def Hn:List (Ad×Blk)→Bool
 |[]=>true
 |(_,b)::r=>Nat.beq b.g 0&&Hn r
def zQ:Option Nat→(Nat→AV)→AV→Nat→AV
 |some d,s,v=>upd s d v
 |none,s,_=>s
def Me(n:Nat):Option Nat→Bool
 |some d=>Nat.ble (d+1) n
 |none=>true
section
variable {P:Program} {T:Nat→Option TI} {n:Nat} {C:Cx} {τ:St} {Q:Exit→St→Prop}
theorem Zqx{c:Code}(b:uH c=true)(h:LO P n C c 0 τ Q):LW P n C c τ Q:=by
 cases c with
 |region id ops d=>
  cases d with
  |true=>cases b
  |false=>
   obtain⟨i,rfl⟩:∃l:List Oper,ops=l.toArray:=⟨ops.toList,by simp⟩
   intro γ σ g e a w f
   have:=h γ σ a w g e f
   simp only[Cc,Gh]at this
   exact wp_region_lit this
 |_=>cases b
theorem ZM2(d:CxOk C)(A:Ba P T){os:Nat}{fx:List Nat}(y:C.outs=os)(v:C.fx=fx){c:Code}{k:Nat}(m:Nat)(a:AT)(lf:Lf)(q:Ren→(St→Prop)→Prop)
  (E:∀r Φ,Bj r os a τ (fun τ a=>GB P T C.l n r ((Cc c).toList.map (·.dst)) (IM m (IJ k (Cc c).toList)) [] a (fun τ' env f=>Bj r os f (D7 env τ') (fun τ _=>Fr fx lf τ Φ)) τ)=q r Φ)
  (h:∀r,r.θ=C.θ→r.H0=C.H0→r.κ=C.κ→r.no=C.no→q r (fun τ'=>LO P n C c (k+m) τ' Q)):LO P n C c k τ Q:=by
 subst y
 subst v
 intro γ σ g w D x z
 have o:=h (C.r γ) rfl rfl rfl rfl
 rw[←E]at o
 obtain⟨R,p,N,u,i,j⟩:=B7 (n:=n) d a o x
 have e:(Cc c).toList.drop k=IM m (IJ k (Cc c).toList)++(Cc c).toList.drop (k+m):=by
  rw[TV,gU,←M5,I7]
 rw[e]
 refine LD (d.ren γ) A (B:=C.B) _ (fun τ' l f U b w' J K L=>?_) _ [] p R N g w u i (j _ _ z)
 obtain⟨V,s,t⟩:=Of (n:=n) K
 obtain⟨X,S,W,f1,f2,f3⟩:=B7 (n:=n) d f J s
 obtain⟨M,Y,O,F,G,H,I⟩:=Ha (n:=n) d f1 D f2
 exact G M O b w' F H (I _ _ (f3 _ _ (t _ _ L)))
theorem ZO5(b:CxOk C)(A:Ba P T){os:Nat}{fx:List Nat}(y:C.outs=os)(v:C.fx=fx){c:Code}{k:Nat}(a:AT)(lf:Lf)(q:Ren→(Exit→St→Prop)→Prop)
  (E:∀r Φ,Bj r os a τ (fun τ a=>GB P T C.l n r ((Cc c).toList.map (·.dst)) (IJ k (Cc c).toList) [] a (fun τ' env d=>Bj r os d (D7 env τ') (fun τ _=>Fr fx lf τ (Φ .normal))) τ)=q r Φ)
  (h:∀r,r.θ=C.θ→r.H0=C.H0→r.κ=C.κ→r.no=C.no→q r Q):LO P n C c k τ Q:=by
 subst y
 subst v
 intro γ σ f w D x z
 have m:=h (C.r γ) rfl rfl rfl rfl
 rw[←E]at m
 obtain⟨O,p,N,u,g,i⟩:=B7 (n:=n) b a m x
 have e:(Cc c).toList.drop k=IJ k (Cc c).toList++[]:=by rw[gU,Nh]
 rw[e]
 refine LD (b.ren γ) A (B:=C.B) _ (fun τ' l d U j w' J K L=>?_) _ [] p O N f w u g (i _ _ z)
 obtain⟨V,s,t⟩:=Of (n:=n) K
 obtain⟨X,S,W,f1,f2,f3⟩:=B7 (n:=n) b d J s
 obtain⟨M,R,o,F,G,H,I⟩:=Ha (n:=n) b f1 D f2
 unfold wpList
 exact⟨o,⟨M,R,o,F,G,H,Wk.refl _⟩,I _ _ (f3 _ _ (t _ _ L))⟩
theorem T5:∀{hs:List (Ad×Blk)},Hn hs=true→∀k,(AH hs k).g=0
 |[],_,k=>rfl
 |(k',b)::r,h,k=>by
  simp only[Hn,Ya]at h
  simp only[AH]
  split
  ·exact Ye h.1
  ·exact T5 h.2 k
theorem Zo9{k:Ad}{ks:List Ad}:ks.any (Bv k)=true↔k∈ks:=by
 rw[Y1]
 exact⟨fun⟨q,a,b⟩=>by rw[Cf.1 b];exact a,fun h=>⟨k,h,Cf.2 rfl⟩⟩
theorem ZFS(a b:List (Ad×Blk))(k:Ad):AH (a++b) k=if k∈a.map (·.1)then AH a k else AH b k:=by
 induction a with
 |nil=>simp
 |cons p a f=>
  obtain⟨q,d⟩:=p
  simp only[I5,AH,CF,YP]
  cases c:Bv q k with
  |true=>rw[Yq (.inl (Cf.1 c).symm)]
  |false=>
   have:k≠q:=fun e=>by rw[Cf.2 e.symm]at c;cases c
   grind
theorem Oh{fr fl:List Ad}:∀(hs:List (Ad×Blk)) (ks:List Ad) (k:Ad),(k∈ks→AH (CK ks fr fl hs) k=EV)∧(k∉ks→(AH (CK ks fr fl hs) k=AH hs k∧(k∈fl∨He fr (AH hs k).cells=false))∨AH (CK ks fr fl hs) k=EV)
 |[],ks,k=>⟨fun _=>rfl,fun _=>.inr rfl⟩
 |(q,b)::r,ks,k=>by
  simp only[CK]
  split
  ·rename_i d a
   have f:q∉ks:=fun hm=>by rw[Zo9.2 hm]at d;cases d
   simp only[AH]
   cases c:Bv q k with
   |true=>
    have c:=Cf.1 c
    subst c
    refine⟨fun h=>absurd h f,fun _=>.inl ⟨rfl,?_⟩⟩
    simp only[Yh,Yj]at a
    rcases a with a|a
    ·exact .inl (Zo9.1 a)
    grind
   |false=>exact Oh r ks k
  ·obtain⟨d,a⟩:=Oh (fr:=fr) (fl:=fl) r (q::ks) k
   refine⟨fun h=>d (YU _ h),fun h=>?_⟩
   by_cases c:k=q
   ·grind
   ·rcases a (fun hm=>(YP.1 hm).elim c h)with⟨i,j⟩|e
    ·have:Bv q k=false:=by
      cases g:Bv q k with
      |true=>exact absurd (Cf.1 g).symm c
      |false=>rfl
     simp only[AH,this]
     grind
    grind
theorem TD{r:Ren}:∀(Az:List (Ad×Blk)) (H:Hp) (q:Ad),(∀p∈Az,r.κ p.1≠q)→CZ r Az H q=H q
 |[],H,q,h=>rfl
 |(k,b)::rest,H,q,h=>by
  simp only[CZ]
  rw[TD rest _ q (fun p a=>h p (YU _ a)),AI _ _ (fun e=>h (k,b) (Y4 ..) e.symm)]
theorem ZoE{r:Ren}{os:Nat}(d:∀q k:Ad,BD os q=true→BD os k=true→q≠k→r.κ q≠r.κ k):∀(Az:List (Ad×Blk)) (H:Hp),Dn os Az=true→∀k b,(k,b)∈Az→CZ r Az H (r.κ k)=AJ r k b∧AH Az k=b∧BD os k=true∧b.live=true
 |[],H,_,k,b,hm=>by cases hm
 |(q,c)::rest,H,g,k,b,hm=>by
  simp only[Dn,Ya,Yj]at g
  obtain⟨⟨⟨i,u⟩,j⟩,m⟩:=g
  have f:∀p∈rest,p.1≠q:=fun p a e=>by
   have:(rest.any fun p=>Bv q p.1)=true:=Y1.2 ⟨p,a,Cf.2 e.symm⟩
   rw[this]at j;cases j
  have h:∀(l:List (Ad×Blk)),Dn os l=true→∀p∈l,BD os p.1=true:=by
   intro l
   induction l with
   |nil=>intro _ p a;cases a
   |cons p l w=>
    obtain⟨x,y⟩:=p
    intro hl p a
    simp only[Dn,Ya]at hl
    rcases YP.1 a with rfl|a
    ·exact hl.1.1.1
    ·exact w hl.2 p a
  simp only[CZ]
  rcases YP.1 hm with e|hm
  ·cases e
   refine⟨?_,by simp only[AH,Cf.2 rfl],i,u⟩
   rw[TD rest _ _ (fun p a=>d _ _ (h rest m p a) i (f p a)),AM]
  ·obtain⟨n,o,s,t⟩:=ZoE d rest (updH H (r.κ q) (AJ r q c)) m k b hm
   refine⟨n,?_,s,t⟩
   have:Bv q k=false:=by
    cases v:Bv q k with
    |true=>exact absurd (Cf.1 v).symm (f _ hm)
    |false=>rfl
   simp only[AH,this]
   exact o
theorem nK:∀{Az:List (Ad×Blk)},Fb C Az→∀p∈Az,p.1.1≠1→C.no (C.κ p.1)
 |(k,b)::r,h,p,c,a=>by
  simp only[Fb]at h
  split at h
  ·rename_i d
   rcases YP.1 c with rfl|c
   ·exact absurd (Ye d) a
   ·exact nK h p c a
  ·rcases YP.1 c with rfl|c
   ·exact h.1
   ·exact nK h.2 p c a
theorem jl{H:Hp}:∀{ks:List Ad},IS H ks→∀k∈ks,FW (H k).cells
 |q::r,h,k,a=>by
  rcases YP.1 a with rfl|a
  ·exact h.1
  ·exact jl h.2 k a
theorem FU{os:Nat}{k:Ad}(h:BD os k=true):k.1=1∨(k.1=0∧k.2<os):=by
 simp only[BD,Yh,Ya]at h
 rcases h with h|⟨a,b⟩
 ·exact .inl (Ye h)
 ·exact .inr ⟨Ye a,Yo b⟩
theorem Zn4{fr:List Ad}:∀(ss:List (Nat×AV)) (j:Nat),AL (D0 fr ss) j=.top∨(AL (D0 fr ss) j=AL ss j∧Gq fr (AL ss j)=false)
 |[],j=>.inl rfl
 |(i,x)::r,j=>by
  simp only[D0,AL]
  split
  ·grind
  ·exact Zn4 r j
theorem ZyS(hC:CxOk C){os:Nat}{fx:List Nat}(hO:C.outs=os)(hF:C.fx=fx){c:Code}{k:Nat}{ss:List (Nat×AV)}{hs:List (Ad×Blk)}(l:Option Nat)(fo:Operand)(aZ:List Operand)(m:Gt c k=some (l,fo,aZ))
  (f:FuncId) (first u xs:List AV) (hf:ev (AL ss) fo=.fn (.func f) first u) (hxs:first++aZ.map (ev (AL ss))++u=xs) (ks:List Ad) (J:List (Ad×Blk)) (hhb:(ks.map fun k=>(k,AH hs k))=J)
  {ι:Type} (I:ι→Prop) (xF:ι→AV) (s:ι→List (Ad×Blk)) (fr fl:List Ad) (M:(Md fr fx&&Hn hs&&Me n l&&ks.all (BD os))=true) (t:∀i,(Dn os (s i)&&Li fr (s i))=true) (H:∀i,Fb C (s i)) (hfl:IS (AH hs) fl)
  (T:∀r:Ren,r.θ=C.θ→r.H0=C.H0→r.κ=C.κ→r.no=C.no→∀V,(∀p∈J,(V (r.κ p.1)).g=r.γ p.1+p.2.g∧(p.2.live=true→V (r.κ p.1)=AJ r p.1 p.2))→(∀k:Ad,k.1≤C.l→¬r.no k→V k=r.H0 k)→
   ZcN P f (C.l+1) (Ao r xs) V (fun y W=>∃i,I i∧∃a:Ad→Nat,(∀k,k∉fr→a k=r.γ k)∧y=ren ⟨r.κ,a,r.θ,r.H0,r.no⟩ (xF i)∧W=CZ ⟨r.κ,a,r.θ,r.H0,r.no⟩ (s i) V))
  (h:∀i,I i→LO P n C c (k+1) (Ab (GE l (xF i) (D0 fr ss)) (s i++CK ((s i).map (·.1)) fr fl hs)) Q):LO P n C c k (Ab ss hs) Q:=by
 subst hO
 subst hF
 simp only[Ya]at M
 obtain⟨⟨⟨k3,k4⟩,k5⟩,k6⟩:=M
 intro γ σ act w hg z hR
 have hr:=hC.ren γ
 have hs':∀j,σ.s j=ren (C.r γ) (AL ss j):=fun j=>(z.s j).1 A6
 have A:∀y:Operand,ev σ.s y=ren (C.r γ) (ev (AL ss) y):=fun y=>J3 (c:=[]) z A6 (by cases y<;>rfl)
 unfold Gt at m
 split at m
 case h_2=>cases m
 rename_i o ho
 split at m
 case h_2=>cases m
 rename_i cl hgd hopc
 split at m
 case h_2=>cases m
 rename_i fo' hcal
 simp only[Yr,Gi]at m
 obtain⟨hd,rfl,rfl⟩:=m
 rw[Cb]at ho
 have hlt:k<(Cc c).toList.length:=by
  grind
 have U:(Cc c).toList.drop k=o::(Cc c).toList.drop (k+1):=by
  rw[Jb hlt]
  grind
 rw[U]
 have L:∀q k:Ad,BD C.outs q=true→BD C.outs k=true→q≠k→(C.r γ).κ q≠(C.r γ).κ k:=fun q k Z h2 h3=>hr.ne (FU Z) (FU h2) h3
 have hA:=T (C.r γ) rfl rfl rfl rfl σ.H (fun p E=>by
  rw[←hhb]at E
  obtain⟨q,g,rfl⟩:=Y3.1 E
  have hq':=FU (YB.1 k6 q g)
  refine⟨?_,fun hl=>z.h q hl⟩
  obtain⟨q1,q2⟩:=q
  simp only at hq'
  rcases hq' with rfl|⟨rfl,h2⟩
  ·have:=z.g q2
   rw[←hr.own]at this
   exact this
  ·exact z.go q2 h2) z.o
 have S:Ao (C.r γ) xs=Ao (C.r γ) first++cl.args.toList.map (ev σ.s)++Ao (C.r γ) u:=by
  rw[←hxs,Gn,Gn]
  congr 2
  rw[Fj,H4]
  exact FN fun y _=>(A y).symm
 have hfe:ev σ.s fo'=.fn (.func f) (Ao (C.r γ) first) (Ao (C.r γ) u):=by rw[A,hf];simp[ren]
 have hrop:Bt P C.l n o (fun σ'=>∃i,I i∧∃a:Ad→Nat,(∀q,q∉fr→a q=γ q)∧σ'=⟨zQ l σ.s (ren (C.r a) (xF i)),CZ (C.r a) (s i) σ.H⟩) σ:=by
  unfold Bt
  rw[hopc]
  simp only[hcal,hfe]
  rw[S]at hA
  refine hA.mono fun y W ⟨i,hi,a,N,e2,e3⟩=>?_
  unfold NK Ck
  rw[hd]
  cases l with
  |none=>exact⟨i,hi,a,N,by rw[e3];rfl⟩
  |some d=>exact⟨Yo k5,i,hi,a,N,by rw[e2,e3];rfl⟩
 refine fc (by simp[Region.wanted,hgd]) (LC hrop) hR fun σ' Y w' hK O=>?_
 obtain⟨i,hi,a,N,rfl⟩:=hK
 have h:=h i hi
 have H:=H i
 have t:=t i
 generalize s i=Az at h H t O
 generalize xF i=x at h O
 simp only[Ya]at t
 obtain⟨k1,k2⟩:=t
 have hsub:∀q,q∈fr→∃b,(q,b)∈Az:=fun q g=>by
  obtain⟨p,E,hk⟩:=Y1.1 (YB.1 k2 q g)
  rw[Cf.1 hk];exact⟨p.2,E⟩
 let τ2:St:=Ab (GE l x (D0 fr ss)) (Az++CK (Az.map (·.1)) fr fl hs)
 have D:∀q,AH (Az++CK (Az.map (·.1)) fr fl hs) q=if q∈Az.map (·.1)then AH Az q else AH (CK (Az.map (·.1)) fr fl hs) q:=fun q=>ZFS _ _ _
 have hin:∀q,q∈Az.map (·.1)→∃b,(q,b)∈Az:=fun q g=>by obtain⟨p,E,rfl⟩:=Y3.1 g;exact⟨p.2,E⟩
 have F:∀q b,(q,b)∈Az→CZ (C.r a) Az σ.H ((C.r a).κ q)=AJ (C.r a) q b∧AH Az q=b∧BD C.outs q=true∧b.live=true:=ZoE (r:=C.r a) L Az σ.H k1
 have B:∀q,q∉Az.map (·.1)→BD C.outs q=true→CZ (C.r a) Az σ.H ((C.r a).κ q)=σ.H ((C.r a).κ q)∧a q=γ q:=fun q g v=>by
  refine⟨TD _ _ _ fun p E=>L _ _ (F p.1 p.2 E).2.2.1 v fun e=>g (Y3.2 ⟨p,E,e⟩),N q fun hf=>?_⟩
  grind
 have K:∀q,BD C.outs q=true→(σ.H (C.κ q)).g=γ q→(CZ (C.r a) Az σ.H (C.κ q)).g=a q+(AH (Az++CK (Az.map (·.1)) fr fl hs) q).g:=fun q v hq0=>by
  rw[D]
  split
  ·rename_i hm
   obtain⟨b,J⟩:=hin q hm
   obtain⟨a1,X,_⟩:=F q b J
   rw[show C.κ q=(C.r a).κ q from rfl,a1,X]
   rfl
  ·rename_i hm
   obtain⟨a1,X⟩:=B q hm v
   rw[show C.κ q=(C.r a).κ q from rfl,a1,X]
   have:(AH (CK (Az.map (·.1)) fr fl hs) q).g=0:=by
    rcases(Oh (fr:=fr) (fl:=fl) hs (Az.map (·.1)) q).2 hm with⟨e,_⟩|e
    ·rw[e];exact T5 k4 q
    ·rw[e];rfl
   rw[this]
   exact hq0
 have hG2:RG (C.r a) C.l C.outs [] τ2 ⟨fun j=>ren (C.r a) (τ2.s j),CZ (C.r a) Az σ.H⟩:=by
  refine⟨fun j=>⟨fun _=>rfl,fun hn=>absurd A6 hn⟩,fun q g=>?_,fun d=>?_,fun i hi=>?_,fun q g=>?_,fun q g hn=>?_⟩
  ·show CZ (C.r a) Az σ.H ((C.r a).κ q)=AJ (C.r a) q (AH (Az++CK (Az.map (·.1)) fr fl hs) q)
   replace g:(AH (Az++CK (Az.map (·.1)) fr fl hs) q).live=true:=g
   rw[D]at g⊢
   split at g
   ·grind
   ·rename_i hm
    rw[Ys hm]
    rcases(Oh (fr:=fr) (fl:=fl) hs (Az.map (·.1)) q).2 hm with⟨e,e'⟩|e
    ·rw[e]at g⊢
     have v:=z.k q g
     have t:BD C.outs q=true:=by
      obtain⟨q1,q2⟩:=q
      simp only at v
      simp only[BD,Yh,Ya]
      rcases v with rfl|⟨rfl,h2⟩
      ·exact .inl rfl
      ·exact .inr ⟨rfl,qa h2⟩
     obtain⟨a1,X⟩:=B q hm t
     rw[a1]
     have J:=z.h q g
     have G:Ao (C.r a) (AH hs q).cells=Ao (C.r γ) (AH hs q).cells:=by
      rcases e' with e'|e'
      ·rw[G9 (jl hfl q e'),G9 (jl hfl q e')]
      ·exact Lz (r:=C.r γ) N _ e'
     show σ.H ((C.r γ).κ q)=_
     rw[J]
     simp only[AJ]
     rw[G,show(C.r a).γ q=a q from rfl,X]
     rfl
    ·rw[e]at g;cases g
  ·have:=K (1,d) rfl (by
    have:=z.g d
    rw[show((Ab ss hs).H (1,d)).g=0 from T5 k4 _]at this
    rw[hC.own];exact this)
   rw[hC.own]at this
   exact this
  ·exact K (0,i) (by simp only[BD,Yh,Ya];exact .inr ⟨rfl,qa hi⟩) (by
    have:=z.go i hi
    rw[show((Ab ss hs).H (0,i)).g=0 from T5 k4 _]at this
    exact this)
  ·replace g:(AH (Az++CK (Az.map (·.1)) fr fl hs) q).live=true:=g
   rw[D]at g
   split at g
   ·rename_i hm
    obtain⟨b,J⟩:=hin q hm
    exact FU (F q b J).2.2.1
   ·rename_i hm
    rcases(Oh (fr:=fr) (fl:=fl) hs (Az.map (·.1)) q).2 hm with⟨e,e'⟩|e
    ·rw[e]at g;exact z.k q g
    ·rw[e]at g;cases g
  ·show CZ (C.r a) Az σ.H q=C.H0 q
   rw[TD _ _ _ fun p E e=>?_]
   ·exact z.o q g hn
   ·by_cases Z:p.1.1=1
    ·obtain⟨⟨p1,p2⟩,p3⟩:=p
     simp only at Z
     subst Z
     rw[show(C.r a).κ (1,p2)=(C.l+1,p2)from hC.own p2]at e
     grind
    ·exact hn (by rw[←e];exact nK H p E Z)
 refine h a _ Y w' (hC.G γ a (fun i hi=>N _ fun hm=>?_) hg) hG2 (R.weaken O fun j=>?_)
 ·have:=YB.1 k3 _ hm
  simp only[Yj,Yg]at this
  rcases this with h|h
  ·cases h
  ·have:(C.fx.any (Nat.beq i))=true:=Y1.2 ⟨i,hi,by simp⟩
   grind
 ·have old:ren (C.r a) (AL (D0 fr ss) j)=σ.s j∨ren (C.r a) (AL (D0 fr ss) j)=.top:=by
   rcases Zn4 (fr:=fr) ss j with e|⟨e,e'⟩
   ·right;rw[e];simp[ren]
   ·left
    rw[e,hs' j]
    exact ZjB (r:=C.r γ) N _ e'
  show ren (C.r a) (AL (GE l x (D0 fr ss)) j)=_∨ren (C.r a) (AL (GE l x (D0 fr ss)) j)=.top
  cases l with
  |none=>exact old
  |some d=>
   simp only[GE,AL,zQ,upd]
   cases hj:Nat.beq d j with
   |true=>
    have:=Ye hj
    grind
   |false=>
    have:j≠d:=fun e=>by rw[e]at hj;simp at hj
    grind
theorem ZHR(D:CxOk C){os:Nat}{fx:List Nat}(F:C.outs=os)(E:C.fx=fx){c:Code}{k:Nat}{ss:List (Nat×AV)}{hs:List (Ad×Blk)}(e:Option Nat)(l:Operand)(j:List Operand)(q:Gt c k=some (e,l,j))
  (f:FuncId) (first d xs:List AV) (G:ev (AL ss) l=.fn (.func f) first d) (t:first++j.map (ev (AL ss))++d=xs) (ks:List Ad) (m:List (Ad×Blk)) (p:(ks.map fun k=>(k,AH hs k))=m)
  (x:AV) (Az:List (Ad×Blk)) (fr fl:List Ad) (i:(Dn os Az&&Li fr Az&&Md fr fx&&Hn hs&&Me n e&&ks.all (BD os))=true) (s:Fb C Az) (o:IS (AH hs) fl)
  (g:∀r:Ren,r.θ=C.θ→r.H0=C.H0→r.κ=C.κ→r.no=C.no→Hk P C.l r f xs m x Az fr)
  (h:LO P n C c (k+1) (Ab (GE e x (D0 fr ss)) (Az++CK (Az.map (·.1)) fr fl hs)) Q):LO P n C c k (Ab ss hs) Q:=by
 simp only[Ya]at i
 obtain⟨⟨⟨⟨⟨I,J⟩,K⟩,L⟩,M⟩,N⟩:=i
 exact ZyS D F E e l j q f first d xs G t ks m p (ι:=Unit) (fun _=>True) (fun _=>x) (fun _=>Az) fr fl (by simp only[Ya];exact⟨⟨⟨K,L⟩,M⟩,N⟩) (fun _=>by simp only[Ya];exact⟨I,J⟩) (fun _=>s) o
  (fun r w z A B u a b=>(g r w z A B u a b).mono fun y v H=>⟨(),trivial,H⟩) fun _ _=>h
end
def DS(l:Nat)(ks:List Ad):Ad→Ad
 |(0,i)=>match Bl ks i with|some k=>k|none=>(0,0)
 |(_+1,d)=>(l+1,d)
def GK(a:List Nat):Ad→Nat
 |(0,i)=>match Bl a i with|some g=>g|none=>0
 |(_+1,_)=>0
def B5(l:Nat)(ks:List Ad)(a:List Nat)(θ:Nat→AV)(H:Hp):Ren:=⟨DS l ks,GK a,θ,H,fun k=>k∈ks⟩
def HR(l:Nat)(ks:List Ad)(a:List Nat)(r:Ren):Prop:=r.κ=DS l ks∧∀i,i<ks.length→r.γ (0,i)=GK a (0,i)
def CB(r:Ren):Nat→List Blk→List Blk
 |_,[]=>[]
 |i,b::a=>AJ r (0,i) b::CB r (i+1) a
def Dm(H:Hp):List Ad→List Blk→Hp
 |k::ks,b::a=>Dm (updH H k b) ks a
 |_,_=>H
theorem LB{r:Ren}{k:Ad}{g:Nat}{e:TypeId}{sz:Nat}{cs:List AV}(h:FW cs):AJ r k ⟨g,true,e,sz,cs⟩=⟨r.γ k+g,true,e,sz,cs⟩:=by
 simp only[AJ,G9 h]
theorem fP:∀(ks:List Ad) (a:List Blk) (H:Hp) (q:Ad),q∉ks→Dm H ks a q=H q
 |[],a,H,q,h=>by cases a<;>rfl
 |k::ks,[],H,q,h=>rfl
 |k::ks,b::a,H,q,h=>by
  simp only[Dm]
  rw[fP ks a _ q (fun hm=>h (YU _ hm)),AI _ _ (fun e=>h (by rw[e];exact Y4 ..))]
theorem Zwz:∀(ks:List Ad) (a:List Blk) (H:Hp),ks.Nodup→∀(j:Nat) (k:Ad) (b:Blk),ks[j]?=some k→a[j]?=some b→Dm H ks a k=b
 |[],a,H,_,j,k,b,h,_=>by simp at h
 |q::ks,[],H,_,_,_,_,_,h=>by simp at h
 |q::ks,c::a,H,e,j,k,b,d,hb=>by
  simp only[Dm]
  rw[List.nodup_cons]at e
  cases j with
  |zero=>
   simp only[Fe,Yr]at d hb
   subst d;subst hb
   rw[fP ks a _ _ e.1,AM]
  |succ j=>
   simp only[I6]at d hb
   exact Zwz ks a _ e.2 j k b d hb
theorem Zpw{r:Ren}:∀(a:List Blk) (i j:Nat),(CB r i a)[j]?=(a[j]?).map (AJ r (0,i+j))
 |[],i,j=>by simp[CB]
 |b::a,i,0=>by simp[CB]
 |b::a,i,j+1=>by
  simp only[CB,I6,Zpw a (i+1) j,show i+1+j=i+(j+1)from by omega]
theorem Zij{P:Program}{T:Nat→Option TI}{n:Nat}{f:FuncId}{fn:Func}(J:List ResultVar)(c:Code){l:Nat}{xs:List AV}{H:Hp}{g:AV→Hp→Prop}(ks:List Ad)(t:List Nat)(fx:List Nat)(θ:Nat→AV)(ys:List AV)(hs:List (Ad×Blk))(LPost:AV→List Blk→Prop)
  (V:P.funcs[f]?=some fn) (hb:fn.body=some c) (s:(fn.name== "runtime.NumGoroutine")=false) (Z:fn.ntmps=n) (hr:fn.results.toList=J) (hx:xs.length≤n) (S:Ba P T)
  (D:∀k∈ks,k.1≤l) (u:ks.Nodup) (W:∀d,AH hs (1,d)=EV) (F:∀k,(AH hs k).live=true→k.1=0∧k.2<ks.length)
  (R:∀i k,ks[i]?=some k→(H k).g=GK t (0,i)+(AH hs (0,i)).g∧((AH hs (0,i)).live=true→H k=AJ (B5 l ks t θ H) (0,i) (AH hs (0,i))))
  (I:Ao (B5 l ks t θ H) ys=xs)
  (h:∀C,CxOk C→C.outs=ks.length→C.fx=fx→C.l=l→C.H0=H→C.θ=θ→C.κ=DS l ks→C.no=(fun k=>k∈ks)→LW P n C c (Ab (DO 0 ys) hs) (FQ T J ks.length LPost))
  (v:∀y b,LPost y b→b.length=ks.length∧(∀x∈b,x.live=true)∧∀r:Ren,r.κ=DS l ks→r.θ=θ→r.H0=H→r.no=(fun k=>k∈ks)→(∀i∈fx,r.γ (0,i)=GK t (0,i))→g (ren r y) (Dm H ks (CB r 0 b))):ZcN P f l xs H g:=by
 let C:Base→Cx:=fun B=>⟨l,B,DS l ks,θ,H,ks.length,fun k=>k∈ks,fx,fun γ=>∀i∈fx,γ (0,i)=GK t (0,i)⟩
 have a:∀i,i<ks.length→ks[i]?=some (DS l ks (0,i)):=fun i hi=>by
  show _=some (match Bl ks i with|some k=>k|none=>(0,0))
  rw[Cb,Yn hi]
 have E:∀(i:Nat) (k:Ad),ks[i]?=some k→i<ks.length:=fun i k hi=>by
  grind
 have K:∀B,CxOk (C B):=fun B=>by
  refine⟨fun _=>rfl,fun i hi=>D _ (Yu (a i hi)),fun i j hi Y e=>?_,fun k w=>?_,fun γ γ' he A i hi=>by rw[he i hi];exact A i hi⟩
  ·have m:=a i hi
   have o:=a j Y
   rw[show DS l ks (0,i)=DS l ks (0,j)from e]at m
   have Q:ks[i]?=ks[j]?:=m.trans o.symm
   exact(List.getElem?_inj hi u).1 Q
  ·obtain⟨i,hi⟩:=YR.1 (show k∈ks from w)
   grind
 refine Zn7 J C (γ:=GK t) (LPost:=LPost) (ys:=ys) (hs:=hs) V hb s Z hr hx S K (fun B=>⟨rfl,rfl,rfl,fun i _=>rfl⟩) (fun B=>I) (fun _=>rfl) W (fun B k w=>?_) (fun B i hi=>?_) (fun B γ y b N A hy L _=>?_) (fun B=>h _ (K B) rfl rfl rfl rfl rfl rfl rfl)
 ·obtain⟨m,o⟩:=F k w
  obtain⟨k1,M⟩:=k
  simp only at m o
  subst m
  exact⟨rfl,o,(R M _ (a M o)).2 w⟩
 ·grind
 ·obtain⟨U,z,v⟩:=v y b hy
  have v:=v ((C B).r γ) rfl rfl rfl rfl fun i hi=>A i hi
  have O:N=Dm H ks (CB ((C B).r γ) 0 b):=by
   funext q
   by_cases G:q∈ks
   ·obtain⟨i,hi⟩:=YR.1 G
    have X:=E i q hi
    have p:b[i]?=some b[i]:=Yn (by omega)
    have m:=L.live i _ p (z _ (Yu p))
    have o:DS l ks (0,i)=q:=by
     grind
    rw[show(C B).κ (0,i)=q from o]at m
    rw[m,Zwz ks _ H u i q (AJ ((C B).r γ) (0,i) b[i]) hi]
    rw[Zpw,p,YW]
    rfl
   ·rw[fP ks _ H q G]
    exact L.o q G
  rw[O];exact v
theorem Zm3{P:Program}{T:Nat→Option TI}{n:Nat}{f:FuncId}{fn:Func}(w:List ResultVar)(c:Code){l:Nat}{xs:List AV}{H:Hp}{a:AV→Hp→Prop}(ks:List Ad)(e:List Nat)(fx:List Nat)(θ:Nat→AV)(ys:List AV)(hs:List (Ad×Blk))(LPost:AV→List Blk→Prop)
  (F:P.funcs[f]?=some fn) (hb:fn.body=some c) (g:(fn.name== "runtime.NumGoroutine")=false) (I:fn.ntmps=n) (J:fn.results.toList=w) (K:xs.length≤n) (D:Ba P T)
  (q:∀k∈ks,k.1≤l) (t:ks.Nodup) (p:∀i,i<ks.length→i∈fx) (G:∀d,AH hs (1,d)=EV) (s:∀k,(AH hs k).live=true→k.1=0∧k.2<ks.length)
  (B:∀i k,ks[i]?=some k→(H k).g=GK e (0,i)+(AH hs (0,i)).g∧((AH hs (0,i)).live=true→H k=AJ (B5 l ks e θ H) (0,i) (AH hs (0,i))))
  (v:Ao (B5 l ks e θ H) ys=xs)
  (h:∀C,CxOk C→C.outs=ks.length→C.fx=fx→C.l=l→C.H0=H→C.θ=θ→C.κ=DS l ks→C.no=(fun k=>k∈ks)→LW P n C c (Ab (DO 0 ys) hs) (FQ T w ks.length LPost))
  (u:∀y b,LPost y b→b.length=ks.length∧(∀x∈b,x.live=true)∧∃Y' bs',(∀r,HR l ks e r→ren r y=Y')∧(∀r,HR l ks e r→CB r 0 b=bs')∧a Y' (Dm H ks bs')):ZcN P f l xs H a:=by
 refine Zij w c ks e fx θ ys hs LPost F hb g I J K D q t G s B v h fun y b hy=>?_
 obtain⟨m,o,Y',bs',E,hB,u⟩:=u y b hy
 refine⟨m,o,fun r z _ _ _ A=>?_⟩
 have j:HR l ks e r:=⟨z,fun i hi=>A i (p i hi)⟩
 rw[E _ j,hB _ j];exact u
theorem Zp0{P:Program}{T:Nat→Option TI}{n:Nat}{f:FuncId}{fn:Func}(v:List ResultVar)(c:Code){l:Nat}{xs:List AV}{H:Hp}{a:AV→Hp→Prop}(ks:List Ad)(g:List Nat)(fx:List Nat)(θ:Nat→AV)(ys:List AV)(hs:List (Ad×Blk))(Y:AV)(j:List Blk){Y':AV}{bs':List Blk}
  (D:P.funcs[f]?=some fn) (hb:fn.body=some c) (e:(fn.name== "runtime.NumGoroutine")=false) (F:fn.ntmps=n) (I:fn.results.toList=v) (J:xs.length≤n) (A:Ba P T)
  (q:∀k∈ks,k.1≤l) (t:ks.Nodup) (p:∀i,i<ks.length→i∈fx) (E:∀d,AH hs (1,d)=EV) (s:∀k,(AH hs k).live=true→k.1=0∧k.2<ks.length)
  (z:∀i k,ks[i]?=some k→(H k).g=GK g (0,i)+(AH hs (0,i)).g∧((AH hs (0,i)).live=true→H k=AJ (B5 l ks g θ H) (0,i) (AH hs (0,i))))
  (u:Ao (B5 l ks g θ H) ys=xs) (m:j.length=ks.length) (o:∀b∈j,b.live=true) (B:∀r,HR l ks g r→ren r Y=Y') (hB:∀r,HR l ks g r→CB r 0 j=bs')
  (h:∀C,CxOk C→C.outs=ks.length→C.fx=fx→C.l=l→C.H0=H→C.θ=θ→C.κ=DS l ks→C.no=(fun k=>k∈ks)→LW P n C c (Ab (DO 0 ys) hs) (FQ T v ks.length (fun y b=>y=Y∧b=j)))
  (G:a Y' (Dm H ks bs')):ZcN P f l xs H a:=by
 exact Zm3 v c ks g fx θ ys hs (fun y b=>y=Y∧b=j) D hb e F I J A q t p E s z u h fun y b ⟨w,x⟩=>by subst w;subst x;exact⟨m,o,Y',bs',B,hB,G⟩
section
variable {P:Program} {l:Nat} {r:Ren} {f:FuncId} {xs xs':List AV} {hb Az:List (Ad×Blk)} {x x':AV}
theorem ZzS(e:Ao r xs=xs')(g:ren r x=x')(h:∀a,(∀p∈hb,(a (r.κ p.1)).g=r.γ p.1+p.2.g∧(p.2.live=true→a (r.κ p.1)=AJ r p.1 p.2))→(∀k:Ad,k.1≤l→¬r.no k→a k=r.H0 k)→ZcN P f (l+1) xs' a (fun y b=>y=x'∧b=CZ r Az a)):
  Hk P l r f xs hb x Az []:=fun a hb i=>by
 rw[e]
 exact(h a hb i).mono fun y b ⟨c,d⟩=>⟨r.γ,fun _ _=>rfl,by rw[c,←g],d⟩
end
theorem Zo6{α:Type}{e:α→List D}{r:Ren}{k:Ad}(xs:List α):FD r k (Af e xs):=by
 unfold FD
 rw[G9 (A0 e xs)]
 refine YB.2 fun x a=>?_
 obtain⟨d,_,rfl⟩:=Y3.1 a
 rfl
theorem Zu6{r:Ren}{k:Ad}{vs:List AV}(h:(Ao r vs).all (AV.low (r.κ k).1)=true):FD r k vs:=h
theorem tr{r:Ren}{k:Ad}(ds:List D):FD r k (ds.map .d):=by
 unfold FD
 rw[Hj]
 refine YB.2 fun x a=>?_
 obtain⟨d,_,rfl⟩:=Y3.1 a
 rfl
theorem Zjy{α:Type}(e:α→List D)(xs:List α):Fk (Af e xs):=fun x a=>by
 obtain⟨d,_,rfl⟩:=Y3.1 a;rfl
theorem ZyP{α:Type}{e:α→List D}{xs:List α}{off cn sz:Nat}{z:List AV}(hl:∀x,(e x).length=sz)(h:off+cn≤xs.length):
  dw (Af e xs) off cn sz z ((Af e xs).take (off*sz)++(List.replicate cn z).flatten++(Af e xs).drop ((off+cn)*sz)):=by
 refine⟨?_,rfl⟩
 rw[Dy hl]
 exact YZ _ h
theorem ZBy{α:Type}{e:α→List D}{xs:List α}{off sz:Nat}{A B:List AV}(hl:∀x,(e x).length=sz)(h:off≤xs.length):∃m,((Af e xs).take (off*sz)++A++B).take m=Af e (xs.take off):=by
 refine⟨off*sz,?_⟩
 have a:((Af e xs).take (off*sz)).length=off*sz:=by
  rw[YC,Dy hl]
  exact HV (YZ _ h)
 rw[Ei,Xe (by omega),QE (by omega),TP hl]
def Ie(n:Nat):List (Ad×Blk)→Bool
 |[]=>true
 |(k,_)::r=>Nat.beq k.1 0&&Nat.ble (k.2+1) n&&Ie n r
theorem hJ{n:Nat}:∀{hs:List (Ad×Blk)},Ie n hs=true→∀k,(AH hs k).live=true→k.1=0∧k.2<n
 |[],_,k,h=>by simp[AH,EV]at h
 |(q,b)::r,hi,k,h=>by
  simp only[Ie,Ya]at hi
  simp only[AH]at h
  split at h
  ·rename_i a
   have a:=Cf.1 a
   subst a
   exact⟨Ye hi.1.1,Yo hi.1.2⟩
  ·exact hJ hi.2 k h
theorem gt{n:Nat}:∀{hs:List (Ad×Blk)},Ie n hs=true→∀d,AH hs (1,d)=EV
 |[],_,d=>rfl
 |(q,b)::r,hi,d=>by
  simp only[Ie,Ya]at hi
  simp only[AH]
  split
  ·rename_i a
   have a:=Cf.1 a
   subst a
   have:=Ye hi.1.1
   grind
  ·exact gt hi.2 d
def I1(H:Hp)(r:Ren)(hs:List (Ad×Blk)):Nat→List Ad→Prop
 |_,[]=>True
 |i,k::ks=>((H k).g=r.γ (0,i)+(AH hs (0,i)).g∧((AH hs (0,i)).live=true→H k=AJ r (0,i) (AH hs (0,i))))∧I1 H r hs (i+1) ks
theorem kW{H:Hp}{r:Ren}{hs:List (Ad×Blk)}:∀{ks:List Ad} {i:Nat},I1 H r hs i ks→∀j k,ks[j]?=some k→(H k).g=r.γ (0,i+j)+(AH hs (0,i+j)).g∧((AH hs (0,i+j)).live=true→H k=AJ r (0,i+j) (AH hs (0,i+j)))
 |[],i,_,j,k,h=>by simp at h
 |q::ks,i,h,0,k,a=>by
  simp only[Fe,Yr]at a
  subst a
  exact h.1
 |q::ks,i,h,j+1,k,a=>by
  have:=kW h.2 j k (by simpa using a)
  grind
def Il(l:Nat):List Ad→Prop
 |[]=>True
 |k::ks=>k.1≤l∧Il l ks
theorem Uf{l:Nat}:∀{ks:List Ad},Il l ks→∀k∈ks,k.1≤l
 |q::ks,h,k,a=>by
  rcases YP.1 a with rfl|a
  ·exact h.1
  ·exact Uf h.2 k a
def In:Nat→List Nat
 |0=>[]
 |n+1=>In n++[n]
theorem T2:∀{n i:Nat},i<n→i∈In n
 |n+1,i,h=>by
  simp only[In,Gf,Kw]
  rcases YL i n with a|a
  ·exact .inl (T2 a)
  grind
theorem Zni{P:Program}{T:Nat→Option TI}{n:Nat}{f:FuncId}{fn:Func}(u:List ResultVar)(c:Code){l:Nat}{xs:List AV}{H:Hp}{a:AV→Hp→Prop}(ks:List Ad)(g:List Nat)(os:Nat)(θ:Nat→AV)(ys:List AV)(hs:List (Ad×Blk))(Y:AV)(e:List Blk){Y':AV}{bs':List Blk}
  (z:P.funcs[f]?=some fn) (hb:fn.body=some c) (d:(fn.name== "runtime.NumGoroutine")=false) (B:fn.ntmps=n) (E:fn.results.toList=u) (F:xs.length≤n) (w:Ba P T) (s:ks.length=os)
  (p:Il l ks) (q:ks.Nodup) (j:Ie os hs=true) (v:I1 H (B5 l ks g θ H) hs 0 ks) (t:Ao (B5 l ks g θ H) ys=xs) (m:e.length=os) (o:∀b∈e,b.live=true) (x:∀r,HR l ks g r→ren r Y=Y') (hB:∀r,HR l ks g r→CB r 0 e=bs')
  (h:∀C,CxOk C→C.outs=os→C.fx=In os→C.l=l→C.H0=H→C.θ=θ→C.κ=DS l ks→C.no=(fun k=>k∈ks)→LW P n C c (Ab (DO 0 ys) hs) (FQ T u os (fun y b=>y=Y∧b=e)))
  (D:a Y' (Dm H ks bs')):ZcN P f l xs H a:=by
 subst s
 exact Zp0 u c ks g (In ks.length) θ ys hs Y e z hb d B E F w (Uf p) q (fun i hi=>T2 hi) (gt j) (hJ j) (fun i k A=>by have:=kW v i k A;rw[YW]at this;exact this) t m o x hB h D
theorem ZpS{α:Type}{e e':α→List D}{xs:List α}{j sz:Nat}{x:α}(b:xs[j]?=some x)(hl:∀x,(e x).length=sz)(he:∀x,e x=e' x):DX (Af e xs) (j*sz) ((e' x).map .d):=by
 have a:j<xs.length:=by
  grind
 have:=Zid (z:=x) a hl he
 grind
theorem ZIi{P:Program}{l o:Nat}{no b:Ad→Prop}{H j:Hp}{c:AV}{m:List AV}{y:AV}(h:Cr P l no H c m y)(hl:l≤o)(i:∀q:Ad,q.1≤l→¬no q→¬b q)(r:∀q:Ad,q.1≤l→¬no q→j q=H q):Cr P o b j c m y:=by
 obtain⟨f,first,a,e,h⟩:=h
 exact⟨f,first,a,e,fun t p g s=>h t p (CX hl g) fun k d n=>by rw[s k (CX d hl) (i k d n),r k d n]⟩
def ZOw:Code→Operand
 |.cond o _ _=>o
 |_=>.tmp 0
def Fv(c:Code)(k:Nat):Option Nat:=match Gt c k with|some (d,_,_)=>d|none=>none
def callF(c:Code)(k:Nat):Operand:=match Gt c k with|some (_,f,_)=>f|none=>.tmp 0
def Gu(c:Code)(k:Nat):List Operand:=match Gt c k with|some (_,_,xs)=>xs|none=>[]
theorem Zpp{P:Program}{n:Nat}{C:Cx}{Q:Exit→St→Prop}(m:CxOk C){os:Nat}{fx:List Nat}(p:C.outs=os)(o:C.fx=fx){c:Code}{k:Nat}{ss:List (Nat×AV)}{hs:List (Ad×Blk)}
  (f:FuncId) (first a xs:List AV) (i:Gt c k=some (Fv c k,callF c k,Gu c k)) (q:ev (AL ss) (callF c k)=.fn (.func f) first a) (l:first++(Gu c k).map (ev (AL ss))++a=xs) (ks:List Ad) (hb:List (Ad×Blk)) (e:(ks.map fun k=>(k,AH hs k))=hb)
  (x:AV) (Az:List (Ad×Blk)) (fr fl:List Ad) (g:(Dn os Az&&Li fr Az&&Md fr fx&&Hn hs&&Me n (Fv c k)&&ks.all (BD os))=true) (j:Fb C Az) (d:IS (AH hs) fl)
  (b:∀r:Ren,r.θ=C.θ→r.H0=C.H0→r.κ=C.κ→r.no=C.no→Hk P C.l r f xs hb x Az fr)
  (h:LO P n C c (k+1) (Ab (GE (Fv c k) x (D0 fr ss)) (Az++CK (Az.map (·.1)) fr fl hs)) Q):LO P n C c k (Ab ss hs) Q:=
 ZHR m p o _ _ _ i f first a xs q l ks hb e x Az fr fl g j d b h
end Go.Eng
namespace Go.Eng
open Go
set_option linter.all false
end Go.Eng
namespace Go.Eng
set_option linter.all false
open Go Go.RowKit Go.Shelf
theorem ZrG{α:Type}{e:α→List D}{xs:List α}{l h:Nat}(q:EM l h xs.length):EM l h (xs.map e).length:=by rw[YO];exact q
theorem ZLo{α:Type}{e:α→List D}{xs:List α}{sz:Nat}(he:∀x,(e x).length=sz):∀d,d∈xs.map e→d.length=sz:=fun d h=>by
 grind
theorem Zuq{α:Type}{e:α→List D}{xs:List α}{sz l h:Nat}(he:∀x,(e x).length=sz):MY (xs.map e) sz l h (((xs.drop l).take (h-l)).map e):=
 ⟨ZLo he,by rw[←List.map_drop,←List.map_take]⟩
theorem ZxC{i:Int}{len sz:Nat}(a:0≤i)(h:i<len):KU i len 0 sz (i.toNat*sz):=⟨a,h,by simp⟩
theorem Zyr{α:Type}{e:α→List D}{xs:List α}{j sz a:Nat}{z y:α}{vs:List D}(b:j<xs.length)(hl:∀x,(e x).length=sz)(h:a+vs.length≤sz)(he:e y=(e (xs.getD j z)).take a++vs++(e (xs.getD j z)).drop (a+vs.length)):
  HS (Af e xs) (j*sz+a) (vs.map .d) (Af e (xs.set j y)):=by
 have d:(j+1)*sz≤xs.length*sz:=YZ _ b
 rw[Y0,Kv]at d
 refine⟨by rw[YO,Dy hl];omega,?_⟩
 have f:xs.getD j z=xs[j]:=by rw[YE,Yn b];rfl
 rw[f]at he
 have hs:Af e xs=Af e (xs.take j)++((e xs[j]).map .d++Af e (xs.drop (j+1))):=by
  conv=>lhs;rw[←I7 j xs,Jb b,LJ,Gl]
 have c:(Af e (xs.take j)).length=j*sz:=by rw[Dy hl,YC,HV (by omega)]
 have g:((e xs[j]).map AV.d).length=sz:=by rw[YO,hl]
 rw[hs,List.take_append,QE (by omega:(Af e (xs.take j)).length≤j*sz+a),c,show j*sz+a-j*sz=a from by omega,Xe (by omega),
  List.drop_append,p7 (by rw[c];omega),c,HW,show j*sz+a+(vs.map AV.d).length-j*sz=a+vs.length from by rw[YO];omega,Qr (by omega),
  pX,Yq b,LJ,Gl,he]
 simp only[QA,List.map_take,List.map_drop,Ei]
end Go.Eng
namespace Go.Eng
set_option linter.all false
theorem gC{α:Type}{l:List α}{p:α→Bool}:((match l.findIdx? p with|some k=>(k:Int)|none=>-1)≥0)↔l.any p=true:=by
 rw[Y1]
 cases h:l.findIdx? p with
 |none=>
  rw[M3]at h
  constructor
  ·intro e;exact absurd e (by decide)
  ·rintro⟨x,d,a⟩;rw[h x d]at a;cases a
 |some k=>
  obtain⟨b,c,_⟩:=Ja.1 h
  exact⟨fun _=>⟨l[k],Ky b,c⟩,fun _=>Int.natCast_nonneg k⟩
theorem Zz3{α:Type}{e e':α→List D}{xs:List α}{j sz:Nat}{y:α}(a:j<xs.length)(hl:∀x,(e x).length=sz)(he:∀x,e x=e' x):HS (Af e xs) (j*sz) ((e' y).map .d) (Af e (xs.set j y)):=by
 rw[←he];exact ZHY a hl
theorem ZlM{α:Type}{sz:Nat}{e e':α→List D}{y:α}(C:List AV)(hl:∀x,(e x).length=sz)(he:∀x,e x=e' x):ED sz C (.d (.list [e' y])) 1 (Af e [y]):=by
 rw[Zyt,he];exact Zyj C (by rw[←he];exact hl y)
theorem ZHo{C:List AV}{o n m sz:Nat}{es:List (List D)}(h:n=m)(k:GT C o m sz es):GT C o n sz es:=h▸k
theorem ZKq{α:Type}{e:α→List D}{xs:List α}{n m off sz:Nat}(a:n=m)(h:off≤xs.length)(hl:∀x,(e x).length=sz):n=m∧off*sz≤(Af e xs).length∧(Af e xs).drop (off*sz)=Af e (xs.drop off):=
 ⟨a,by rw[Dy hl];exact YZ _ h,LG hl xs off⟩
theorem ZHV{α:Type}{e:α→List D}{z:α}{c:List AV}(a:(e z).map .d=c)(m:Nat):(List.replicate m c).flatten=Af e (List.replicate m z):=by
 subst a
 induction m with
 |zero=>rfl
 |succ m b=>rw[Xa,I2,b,Xa,Gl]
end Go.Eng
namespace Go.Eng
set_option linter.all false
open Go Go.RowKit
section
variable {P:Program} {T:Nat→Option TI} {n:Nat} {C:Cx} {τ:St} {Q:Exit→St→Prop}
theorem ZIo(f:CxOk C){os:Nat}{fx:List Nat}(k:C.outs=os)(i:C.fx=fx){c:Code}(a:AT)(lf:Lf)(q:Ren→(St→Prop)→Prop)
  (m:∀r Φ,Bj r os a τ (fun τ _=>Fr fx lf τ Φ)=q r Φ) (h:∀r,r.θ=C.θ→r.H0=C.H0→r.κ=C.κ→r.no=C.no→q r (fun τ'=>LW P n C c τ' Q)):LW P n C c τ Q:=by
 subst k
 subst i
 intro γ σ l j
 have e:=h (C.r γ) rfl rfl rfl rfl
 rw[←m]at e
 obtain⟨y,w,x,g,b,d⟩:=B7 (n:=n) f a e j
 obtain⟨u,z,v,o,p,s,t⟩:=Ha (n:=n) f g l b
 exact BF.weak (p u v o s) (d.trans t)
end
theorem ZnV{s:ByteArray}{i:Int}(a:0≤i)(h:i<s.size):Ih s i ((s.data.toList.getD i.toNat 0).toNat:Int):=by
 have:=Zuh (s:=s) (i:=i.toNat) (by omega)
 rwa [Int.toNat_of_nonneg a]at this
end Go.Eng
