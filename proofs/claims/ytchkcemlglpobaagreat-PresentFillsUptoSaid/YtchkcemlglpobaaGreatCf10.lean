import Derived.Test.YtchkcemlglpobaaGreatCf09
import Derived.Shelf.Spec.SlicesGrow
import Derived.Test.YtchkcemlglpobaaGreatCf00
namespace Go.Eng
structure Raw where
 num:Int
 wire:Int
 bits:Int
 data:ByteArray
deriving Inhabited,DecidableEq
mutual
inductive Val where
 |mk (kind bits:Int) (text:ByteArray) (list:List Val) (pairs:List Pr) (slots:List Slt) (raws:List Raw)
inductive Pr where
 |mk (key val:Val)
inductive Slt where
 |mk (num:Int) (val:Val)
end
inductive Msk where
 |mk (num:Int) (subs:List Msk)
instance:Inhabited Val:=⟨.mk 0 0 .empty [] [] [] []⟩
instance:Inhabited Pr:=⟨.mk default default⟩
instance:Inhabited Slt:=⟨.mk 0 default⟩
instance:Inhabited Msk:=⟨.mk 0 []⟩
def Val.kind:Val→Int|.mk k _ _ _ _ _ _=>k
def Val.bits:Val→Int|.mk _ b _ _ _ _ _=>b
def Val.text:Val→ByteArray|.mk _ _ t _ _ _ _=>t
def Val.list:Val→List Val|.mk _ _ _ l _ _ _=>l
def Val.pairs:Val→List Pr|.mk _ _ _ _ p _ _=>p
def Val.slots:Val→List Slt|.mk _ _ _ _ _ s _=>s
def Val.raws:Val→List Raw|.mk _ _ _ _ _ _ r=>r
def Pr.key:Pr→Val|.mk k _=>k
def Pr.val:Pr→Val|.mk _ v=>v
def Slt.num:Slt→Int|.mk n _=>n
def Slt.val:Slt→Val|.mk _ v=>v
def Msk.num:Msk→Int|.mk n _=>n
def Msk.subs:Msk→List Msk|.mk _ s=>s
def AE(s:ByteArray):List D:=[.str s]
def su(s:Int):List D:=[.int .i64 s]
def AP(s:Bool):List D:=[.bool s]
def Ay(x:Raw):List D:=[.int .i64 x.num,.int .i64 x.wire,.int .u64 x.bits,.str x.data]
mutual
def Aq:Val→List D
 |.mk k b t l p s r=>[.int .i64 k,.int .u64 b,.str t,.list (S8 l),.list (Pf p),.list (SF s),.list (r.map Ay)]
def S8:List Val→List (List D)
 |[]=>[]
 |v::vs=>Aq v::S8 vs
def Ar:Pr→List D
 |.mk k v=>Aq k++Aq v
def Pf:List Pr→List (List D)
 |[]=>[]
 |v::vs=>Ar v::Pf vs
def Ai:Slt→List D
 |.mk n v=>.int .i64 n::Aq v
def SF:List Slt→List (List D)
 |[]=>[]
 |v::vs=>Ai v::SF vs
end
mutual
def LA:Msk→List D
 |.mk n s=>[.int .i64 n,.list (RY s)]
def RY:List Msk→List (List D)
 |[]=>[]
 |v::vs=>LA v::RY vs
end
theorem ZqR(l:List Val):S8 l=l.map Aq:=by induction l with|nil=>rfl|cons v l a=>simp[S8,a]
theorem Zyi(l:List Pr):Pf l=l.map Ar:=by induction l with|nil=>rfl|cons v l a=>simp[Pf,a]
theorem Zug(l:List Slt):SF l=l.map Ai:=by induction l with|nil=>rfl|cons v l a=>simp[SF,a]
theorem ZuE(l:List Msk):RY l=l.map LA:=by induction l with|nil=>rfl|cons v l a=>simp[RY,a]
def Ag(x:Val):List D:=[.int .i64 x.kind,.int .u64 x.bits,.str x.text,.list (x.list.map Aq),.list (x.pairs.map Ar),.list (x.slots.map Ai),.list (x.raws.map Ay)]
def Ti(x:Pr):List D:=[.int .i64 x.key.kind,.int .u64 x.key.bits,.str x.key.text,.list (x.key.list.map Aq),.list (x.key.pairs.map Ar),.list (x.key.slots.map Ai),.list (x.key.raws.map Ay),.int .i64 x.val.kind,.int .u64 x.val.bits,.str x.val.text,.list (x.val.list.map Aq),.list (x.val.pairs.map Ar),.list (x.val.slots.map Ai),.list (x.val.raws.map Ay)]
def Cp(x:Slt):List D:=[.int .i64 x.num,.int .i64 x.val.kind,.int .u64 x.val.bits,.str x.val.text,.list (x.val.list.map Aq),.list (x.val.pairs.map Ar),.list (x.val.slots.map Ai),.list (x.val.raws.map Ay)]
def tf(x:Msk):List D:=[.int .i64 x.num,.list (x.subs.map LA)]
theorem F4(v:Val):Aq v=Ag v:=by
 cases v;simp[Aq,Ag,ZqR,Zyi,Zug,Val.kind,Val.bits,Val.text,Val.list,Val.pairs,Val.slots,Val.raws]
theorem Iz(v:Pr):Ar v=Ti v:=by cases v;simp[Ar,F4,Ag,Ti,Pr.key,Pr.val]
theorem F5(v:Slt):Ai v=Cp v:=by cases v;simp[Ai,F4,Ag,Cp,Slt.num,Slt.val]
theorem ZPY(v:Msk):LA v=tf v:=by cases v;simp[LA,tf,ZuE,Msk.num,Msk.subs]
structure Typ where
 kind:Int
 name:ByteArray
deriving Inhabited,DecidableEq
def B1(x:Typ):List D:=[.int .i64 x.kind,.str x.name]
structure Nt where
 name:ByteArray
 val:Val
deriving Inhabited
def AG(x:Nt):List D:=[.str x.name,.int .i64 x.val.kind,.int .u64 x.val.bits,.str x.val.text,.list (x.val.list.map Aq),.list (x.val.pairs.map Ar),.list (x.val.slots.map Ai),.list (x.val.raws.map Ay)]
structure Fld where
 num:Int
 name:ByteArray
 card:Int
 key:Int
 type:Typ
 union:ByteArray
 hasDefault:Bool
 dflt:Val
 notes:List Nt
deriving Inhabited
def Ap(x:Fld):List D:=[.int .i64 x.num,.str x.name,.int .i64 x.card,.int .i64 x.key,.int .i64 x.type.kind,.str x.type.name,.str x.union,.bool x.hasDefault,.int .i64 x.dflt.kind,.int .u64 x.dflt.bits,.str x.dflt.text,.list (x.dflt.list.map Aq),.list (x.dflt.pairs.map Ar),.list (x.dflt.slots.map Ai),.list (x.dflt.raws.map Ay),.list (x.notes.map AG)]
structure Spn where
 lo:Int
 hi:Int
deriving Inhabited,DecidableEq
def AW(x:Spn):List D:=[.int .i64 x.lo,.int .i64 x.hi]
structure By where
 b:UInt8
deriving Inhabited,DecidableEq
def By.v(x:By):Int:=x.b.toNat
def eBy(x:By):List D:=[.int .u8 x.v]
structure Msg where
 name:ByteArray
 fields:List Fld
 reserved:List Spn
 gone:List ByteArray
 notes:List Nt
deriving Inhabited
def Aw(x:Msg):List D:=[.str x.name,.list (x.fields.map Ap),.list (x.reserved.map AW),.list (x.gone.map AE),.list (x.notes.map AG)]
structure Itm where
 name:ByteArray
 num:Int
 notes:List Nt
deriving Inhabited
def EZ(x:Itm):List D:=[.str x.name,.int .i64 x.num,.list (x.notes.map AG)]
structure Enm where
 name:ByteArray
 opn:Bool
 items:List Itm
 reserved:List Spn
 notes:List Nt
deriving Inhabited
def AO(x:Enm):List D:=[.str x.name,.bool x.opn,.list (x.items.map EZ),.list (x.reserved.map AW),.list (x.notes.map AG)]
structure Mth where
 name:ByteArray
 inn:ByteArray
 out:ByteArray
 shape:Int
 notes:List Nt
deriving Inhabited
def FD(x:Mth):List D:=[.str x.name,.str x.inn,.str x.out,.int .i64 x.shape,.list (x.notes.map AG)]
structure Svc where
 name:ByteArray
 methods:List Mth
 notes:List Nt
deriving Inhabited
def AS(x:Svc):List D:=[.str x.name,.list (x.methods.map FD),.list (x.notes.map AG)]
structure Scm where
 messages:List Msg
 enums:List Enm
 services:List Svc
deriving Inhabited
def As(x:Scm):List D:=[.list (x.messages.map Aw),.list (x.enums.map AO),.list (x.services.map AS)]
structure Fil where
 name:ByteArray
 space:ByteArray
 imports:List ByteArray
 messages:List Msg
 enums:List Enm
 services:List Svc
deriving Inhabited
def ZUB(x:Fil):List D:=[.str x.name,.str x.space,.list (x.imports.map AE),.list (x.messages.map Aw),.list (x.enums.map AO),.list (x.services.map AS)]
structure Prb where
 dfn:ByteArray
 num:Int
 err:Int
deriving Inhabited,DecidableEq
def AB(x:Prb):List D:=[.str x.dfn,.int .i64 x.num,.int .i64 x.err]
structure Stp where
 num:Int
 pos:Int
 hasKey:Bool
 key:Val
deriving Inhabited
structure Edt where
 path:List Stp
 kind:Int
 val:Val
deriving Inhabited
class Mv (V:Type) where
 q:Bool
 e:V→List D
 z:V
def A0{V:Type}[Mv V](p:ByteArray×V):List D:=.str p.1::Mv.e p.2
instance:Mv Bool:=⟨false,AP,false⟩
instance:Mv Int:=⟨false,su,0⟩
instance:Mv Msg:=⟨true,Aw,⟨⟨#[]⟩,[],[],[],[]⟩⟩
instance:Mv (List Int):=⟨false,fun x=>[.list (x.map su)],[]⟩
instance (V:Type) [Mv V]:Mv (List (ByteArray×V)):=⟨false,fun m=>[.map (Mv.q V) (m.map A0)],[]⟩
structure Web where
 messages:List (ByteArray×Msg)
 enums:List (ByteArray×Bool)
deriving Inhabited
def HW(x:Web):List D:=[.map true (x.messages.map A0),.map false (x.enums.map A0)]
structure Lst where
 dfn:ByteArray
 l:List Prb
deriving Inhabited
structure Acs where
 m:Msg
 s:Scm
deriving Inhabited
def Gn(x:Acs):List D:=[.str x.m.name,.list (x.m.fields.map Ap),.list (x.m.reserved.map AW),.list (x.m.gone.map AE),.list (x.m.notes.map AG),.list (x.s.messages.map Aw),.list (x.s.enums.map AO),.list (x.s.services.map AS)]
structure Lnk where
 files:List Fil
 f:Fil
 known:List ByteArray
 messages:List ByteArray
 enums:List Enm
deriving Inhabited
def ZUx:Raw:=⟨0,0,0,⟨#[]⟩⟩
def I6:Val:=.mk 0 0 ⟨#[]⟩ [] [] [] []
def zPr:Pr:=.mk I6 I6
def ZTZ:Slt:=.mk 0 I6
def ZUC:Msk:=.mk 0 []
def ZUf:Typ:=⟨0,⟨#[]⟩⟩
def zNt:Nt:=⟨⟨#[]⟩,I6⟩
def ZTp:Fld:=⟨0,⟨#[]⟩,0,0,ZUf,⟨#[]⟩,false,I6,[]⟩
def ZTi:Spn:=⟨0,0⟩
def zBy:By:=⟨0⟩
def ZTw:Msg:=⟨⟨#[]⟩,[],[],[],[]⟩
def ZTU:Itm:=⟨⟨#[]⟩,0,[]⟩
def ZTc:Enm:=⟨⟨#[]⟩,false,[],[],[]⟩
def ZS3:Mth:=⟨⟨#[]⟩,⟨#[]⟩,⟨#[]⟩,0,[]⟩
def ZTv:Svc:=⟨⟨#[]⟩,[],[]⟩
def ZUA:Fil:=⟨⟨#[]⟩,⟨#[]⟩,[],[],[],[]⟩
def ZS7:Prb:=⟨⟨#[]⟩,0,0⟩
end Go.Eng
namespace Go.Eng
set_option linter.all false
open Go Go.RowKit
def GA:List Nat→Code→Code
 |[],c=>c
 |0::p,.seq a _=>GA p a
 |_::p,.seq _ b=>GA p b
 |0::p,.cond _ a _=>GA p a
 |_::p,.cond _ _ b=>GA p b
 |_::p,.block _ c=>GA p c
 |_::p,.loop c=>GA p c
 |_::p,.scope c=>GA p c
 |_,c=>c
def AD(f:Func):Code:=f.body.getD .skip
def Af{α:Type}(e:α→List D)(xs:List α):List AV:=((xs.map e).flatten).map .d
theorem AZ{α:Type}(e:α→List D)(xs:List α):EW (Af e xs):=fun x a=>by
 obtain⟨d,_,rfl⟩:=YC.1 a;rfl
theorem C2{α:Type}{e:α→List D}{sz:Nat}(he:∀x,(e x).length=sz)(xs:List α):(Af e xs).length=xs.length*sz:=by
 unfold Af
 induction xs with
 |nil=>simp
 |cons x xs a=>simp only[Yq,YS,HO,Yk,he,YN,YG]at a⊢;omega
theorem JJ{α:Type}(e:α→List D)(xs ys:List α):Af e (xs++ys)=Af e xs++Af e ys:=by simp[Af]
section
variable {P:Program} {n:Nat} {C:Cx} {τ:St} {Q:Exit→St→Prop}
theorem Zq2{c:Code}(id:Nat)(x:Code)(b:c=.block id x)(h:LW P n C x τ (fun e τ'=>match e with|.exit i=>(match Nat.beq i id with|true=>Q .normal τ'|false=>Q (.exit i) τ')|e=>Q e τ')):LW P n C c τ Q:=b▸ZyC (h.mono fun e τ' a=>by
 cases e with
 |exit i=>
  simp only at a⊢
  split at a
  ·rename_i he;rw[if_pos (Ya he)];exact a
  ·rename_i he;rw[if_neg (by rintro rfl;simp at he)];exact a
 |_=>exact a)
end
theorem uO{P:Program}{T:Nat→Option TI}{n:Nat}{f:FuncId}{fn:Func}(e:List ResultVar)(c:Code){l:Nat}{xs:List AV}{H:Hp}{a:AV→Hp→Prop}(θ:Nat→AV)(ys:List AV)
  (j:P.funcs[f]?=some fn) (hb:fn.body=some c) (b:(fn.name== "runtime.NumGoroutine")=false) (o:fn.ntmps=n) (r:fn.results.toList=e) (s:xs.length≤n) (g:A8 P T)
  (d:An ⟨fun k=>(l+1,k.2),fun _=>0,θ,H,fun _=>False⟩ ys=xs) (h:∀B:Base,LW P n (Tg l θ H B) c (Ab (Dh 0 ys) []) (FQ T e 0 (fun y _=>a y H))):Zcr P f l xs H a:=
 wJ e (Tg l θ H) (γ:=fun _=>0) (LPost:=fun y _=>a y H) j hb b o r s g (fun B=>aV l B θ H) (fun B=>⟨rfl,rfl,rfl,trivial⟩) (fun B=>d) (fun _=>rfl) (fun _=>rfl) (fun B k m=>by simp[AI,D5]at m) (fun B i hi=>absurd hi (IU _))
  (fun B γ y u t _ q p hy=>by rw[hy rfl,Zwc p];exact q) h
theorem ZBE{α:Type}(e:α→List D)(xs:List α):Bq ((xs.map e).length:Nat) xs.length:=by simp[Bq]
theorem xp{α:Type}{e e':α→List D}{xs:List α}{i:Nat}{x:α}(a:xs[i]?=some x)(he:∀x,e x=e' x):Hs (xs.map e) (i:Nat) (e' x):=⟨by omega,by simp[a,he]⟩
theorem ZCj{α:Type}{e e':α→List D}{xs:List α}{i:Nat}{z:α}(hi:i<xs.length)(he:∀x,e x=e' x):Hs (xs.map e) (i:Nat) (e' (xs.getD i z)):=by
 refine xp ?_ he
 grind
theorem yx{a r:Int}(h:a=r)(b: -9223372036854775808≤r)(c:r<9223372036854775808):BZ .i64 a r:=by
 subst h;exact IntWalk.i64_in _ ⟨b,by omega⟩
theorem ZQf{i len sz:Nat}(h:i<len):Jp (i:Nat) len 0 sz (i*sz):=⟨by omega,by omega,by simp⟩
theorem ZxL{sz:Nat}{e:List D}(C:List AV)(he:e.length=sz):D3 sz C (.d (.list [e])) 1 (e.map .d):=by
 refine⟨Ym.2 fun x a=>?_,fun q b=>?_,rfl,by simp⟩
 ·obtain⟨d,_,rfl⟩:=YC.1 a;rfl
 grind
theorem vO{α:Type}{sz:Nat}{e:α→List D}(C:List AV)(xs:List α)(he:∀x,(e x).length=sz):D3 sz C (.d (.list (xs.map e))) xs.length (Af e xs):=by
 refine⟨Ym.2 fun x a=>?_,fun q b=>?_,by simp,rfl⟩
 ·obtain⟨d,_,rfl⟩:=YC.1 a;rfl
 grind
theorem ZxT{α:Type}{sz:Nat}{e:α→List D}(k:Ad)(g:Nat)(xs:List α)(he:∀x,(e x).length=sz):D3 sz (Af e xs) (.ref k g 0 xs.length) xs.length (Af e xs):=by
 refine⟨Ym.2 fun x a=>?_,rfl,by rw[C2 he];simp,by rw[FX,N6,←C2 he xs,IX]⟩
 obtain⟨d,_,rfl⟩:=YC.1 a;rfl
theorem ZxX{α:Type}{sz byt:Nat}{e:α→List D}(xs ys:List α){a:Nat}(he:∀x,(e x).length=sz)(b:xs.length+ys.length=a)(hb:a*byt≤140737488355328):
  Jf (Af e xs) 0 xs.length ys.length sz byt (Af e ys) (Af e (xs++ys)) a:=
 ⟨by rw[C2 he,Yz],by rw[FX,N6,JJ],b,hb⟩
theorem Zyh{α:Type}(e:α→List D)(x:α):Af e [x]=(e x).map .d:=by simp[Af]
theorem bV{α:Type}{sz:Nat}{e:α→List D}(xs:List α)(b:sz≠0)(he:∀x,(e x).length=sz):FT (Af e xs) 0 xs.length sz (xs.map e):=
 ⟨by simp,b,fun q a=>by obtain⟨x,_,rfl⟩:=YC.1 a;exact he x,by rw[C2 he];simp,by rw[FX,N6,←C2 he xs,IX];rfl⟩
theorem wz{α:Type}{e e':α→List D}{xs:List α}{i:Int}{z:α}(a:0≤i)(hi:i<xs.length)(he:∀x,e x=e' x):Hs (xs.map e) i (e' (xs.getD i.toNat z)):=by
 have h:=ZCj (e:=e) (e':=e') (xs:=xs) (i:=i.toNat) (z:=z) (by omega) he
 grind
theorem ZOv(s:ByteArray):s.data.toList.length=s.size:=by simp
theorem ZFi{s:ByteArray}{i:Nat}{x:UInt8}(h:s.data.toList[i]?=some x):GZ s (i:Nat) (x.toNat:Nat):=⟨by omega,x,by simpa using h,rfl⟩
theorem xz{s:ByteArray}{i:Nat}(h:i<s.size):GZ s (i:Nat) ((s.data.toList.getD i 0).toNat:Nat):=by
 refine ZFi ?_
 rw[Yv,Yb (by rw[ZOv];exact h)];rfl
theorem bh{α:Type}{sz byt c:Nat}{e:α→List D}{news:List AV}(xs ys:List α)(he:∀x,(e x).length=sz)(a:ys.length=c)(b:news=Af e ys)(hb:(xs.length+ys.length)*byt≤140737488355328):
  Jf (Af e xs) 0 xs.length c sz byt news (Af e (xs++ys)) (xs++ys).length:=by
 subst a;subst b
 exact ZxX xs ys he (by rw[Yk]) (by rw[Yk];exact hb)
section
variable {P:Program} {l:Nat} {r:Ren} {f:FuncId} {xs xs':List AV} {hb:List (Ad×Blk)} {x x':AV}
def CJ(P:Program)(l:Nat)(no:Ad→Prop)(H:Hp)(c:AV)(g:List AV)(y:AV):Prop:=
 ∃f first a,c=.fn (.func f) first a∧∀e b,l≤e→(∀k:Ad,k.1≤l→¬no k→b k=H k)→Zcr P f e (first++g++a) b (fun h d=>h=y∧d=b)
theorem Zyq{i:Nat}{c:AV}(j:r.θ i=c)(h:CJ P l r.no r.H0 c xs' x')(d:An r xs=xs')(e:ren r x=x'):M4 P l r i xs hb x:=by
 obtain⟨f,first,a,rfl,h⟩:=h
 exact⟨f,first,a,j,fun b _ g=>by rw[d,e];exact h (l+1) b (Nat.le_succ l) g⟩
end
section
variable {P:Program} {T:Nat→Option TI} {n:Nat} {C:Cx} {τ:St} {Q:Exit→St→Prop}
theorem ZEc(g:CxOk C)(k:A8 P T)(hm:P.follows .mixedOrders=true){os:Nat}{fx:List Nat}(d:C.outs=os)(i:C.fx=fx){c:Code}(a:AT)(lf e:Lf)(f:List ResultVar){b:AV→List Blk→Prop}(q:Ren→(Exit→St→Prop)→(AV→List Blk→Prop)→Prop)
  (l:∀r Q b,Ck P T C.l n os r c a τ (KB T f os fx r b lf e Q)=q r Q b) (j:∀τ,FQ T f os b .ret τ→Q .ret τ) (h:∀r,r.θ=C.θ→r.H0=C.H0→r.κ=C.κ→r.no=C.no→q r Q b):LW P n C c τ Q:=
 ZHi g k hm a lf e (by rw[d];exact j) (fun γ=>by rw[d,i,l];exact h _ rfl rfl rfl rfl)
theorem ZBt(e:CxOk C)(g:A8 P T)(hm:P.follows .mixedOrders=true){os:Nat}(f:C.outs=os){c:Code}(a:AT)(d:List ResultVar){b:AV→List Blk→Prop}(q:Ren→(AV→List Blk→Prop)→Prop)
  (i:∀r b,Ck P T C.l n os r c a τ (KF T d os b)=q r b) (h:∀r,r.θ=C.θ→r.H0=C.H0→r.κ=C.κ→r.no=C.no→q r b):LW P n C c τ (FQ T d os b):=by
 subst f
 exact ZLh e g hm a (fun γ=>by rw[i];exact h _ rfl rfl rfl rfl)
mutual
theorem Zxk{H:Hp}:∀(x:AV) {a:AT} {K c:AV→AT→Prop},(∀y a,K y a→c y a)→frz H x a K→frz H x a c
 |.d x,a,K,c,b,h=>b _ _ h
 |.e0,a,K,c,b,h=>b _ _ h
 |.agg xs,a,K,c,b,h=>vq xs (fun ys a h=>b _ _ h) h
 |.ref k g off m,a,K,c,b,h=>by
  unfold frz at h⊢
  grind
 |.top,a,K,c,b,h=>by simp only[frz]at h
 |.p _,a,K,c,b,h=>by simp only[frz]at h
 |.ptr _ _ _,a,K,c,b,h=>by simp only[frz]at h
 |.mp k g,a,K,c,b,h=>by
  unfold frz at h⊢
  grind
 |.iptr _ _,a,K,c,b,h=>by simp only[frz]at h
 |.ifc _ _ _,a,K,c,b,h=>b _ _ h
 |.fn _ _ _,a,K,c,b,h=>by simp only[frz]at h
 |.tup _,a,K,c,b,h=>by simp only[frz]at h
theorem vq{H:Hp}:∀(xs:List AV) {a:AT} {K b:List AV→AT→Prop},(∀y a,K y a→b y a)→Hv H xs a K→Hv H xs a b
 |[],a,K,b,c,h=>c _ _ h
 |x::xs,a,K,b,c,h=>by
  simp only[Hv]at h⊢
  exact Zxk x (fun y a h=>vq xs (fun ys a h=>c _ _ h) h) h
end
end
theorem Fq{α:Type}(e:α→List D)(x:α)(xs:List α):Af e (x::xs)=(e x).map .d++Af e xs:=by simp[Af]
theorem JL{α:Type}{e:α→List D}{sz:Nat}(hl:∀x,(e x).length=sz):∀(xs:List α) (j:Nat),(Af e xs).drop (j*sz)=Af e (xs.drop j)
 |[],j=>by simp[Af]
 |x::xs,0=>by simp
 |x::xs,j+1=>by
  have a:((e x).map AV.d).length=sz:=by rw[Yq,hl]
  rw[Fq,YG,IV,K2,←Lb,List.drop_left' a,JL hl xs j]
  rfl
theorem P7{α:Type}{e:α→List D}{sz:Nat}(hl:∀x,(e x).length=sz):∀(xs:List α) (j:Nat),(Af e xs).take (j*sz)=Af e (xs.take j)
 |[],j=>by simp[Af]
 |x::xs,0=>by simp[Af]
 |x::xs,j+1=>by
  have a:((e x).map AV.d).length=sz:=by rw[Yq,hl]
  rw[Fq,List.take_succ_cons,Fq,YG,IV,K2,List.take_append,a,Nat.add_sub_cancel_left,P7 hl xs j,TY (by omega)]
theorem xI{α:Type}{xs:List α}{j:Nat}{z:α}(a:j<xs.length):xs.drop j=xs.getD j z::xs.drop (j+1):=by
 rw[Y7 a,Yv,Yb a];rfl
theorem uG{α:Type}{e e':α→List D}{xs:List α}{j sz:Nat}{z:α}(a:j<xs.length)(hl:∀x,(e x).length=sz)(he:∀x,e x=e' x):Dn (Af e xs) (j*sz) ((e' (xs.getD j z)).map .d):=by
 unfold Dn
 rw[JL hl,xI (z:=z) a,Fq,he,List.take_left]
theorem ZjO{α:Type}{e e':α→List D}{xs:List α}{j sz o:Nat}{z:α}{c:List AV}(b:j<xs.length)(hl:∀x,(e x).length=sz)(he:∀x,e x=e' x)
  (a:(((e' (xs.getD j z)).map .d).drop o).take c.length=c) (f:o+c.length≤sz):Dn (Af e xs) (j*sz+o) c:=by
 unfold Dn
 have d:((e' (xs.getD j z)).map AV.d).length=sz:=by rw[Yq,←he,hl]
 rw[←Lb,JL hl,xI (z:=z) b,Fq,he,N3 (by omega),TR (by rw[YH];omega),a]
theorem z2{α:Type}{e:α→List D}{xs:List α}{j sz:Nat}{y:α}(b:j<xs.length)(hl:∀x,(e x).length=sz):GL (Af e xs) (j*sz) ((e y).map .d) (Af e (xs.set j y)):=by
 have a:((e y).map AV.d).length=sz:=by rw[Yq,hl]
 have c:(j+1)*sz≤xs.length*sz:=YF _ b
 rw[YG,IV]at c
 refine⟨by rw[a,C2 hl];omega,?_⟩
 rw[a,P7 hl,show j*sz+sz=(j+1)*sz from by rw[YG,IV],JL hl,kA,if_pos b,JJ,Fq,YY]
def Cw(r:Ren):List (Ad×Blk)→Hp→Hp
 |[],H=>H
 |(k,b)::rest,H=>Cw r rest (updH H (r.κ k) (AK r k b))
def Gh(P:Program)(l:Nat)(r:Ren)(f:FuncId)(xs:List AV)(d:List (Ad×Blk))(x:AV)(Av:List (Ad×Blk))(fr:List Ad):Prop:=
 ∀a,(∀p∈d,(a (r.κ p.1)).g=r.γ p.1+p.2.g∧(p.2.live=true→a (r.κ p.1)=AK r p.1 p.2))→(∀k:Ad,k.1≤l→¬r.no k→a k=r.H0 k)→
  Zcr P f (l+1) (An r xs) a (fun y b=>∃c:Ad→Nat,(∀k,k∉fr→c k=r.γ k)∧y=ren ⟨r.κ,c,r.θ,r.H0,r.no⟩ x∧b=Cw ⟨r.κ,c,r.θ,r.H0,r.no⟩ Av a)
mutual
def Ft(fr:List Ad):AV→Bool
 |.ref k _ _ _=>fr.any (Bp k)
 |.ptr k _ _=>fr.any (Bp k)
 |.mp k _=>fr.any (Bp k)
 |.fn _ xs ys=>F3 fr xs||F3 fr ys
 |.agg xs=>F3 fr xs
 |.tup xs=>F3 fr xs
 |.top=>false
 |.d _=>false
 |.e0=>false
 |.p _=>false
 |.iptr _ _=>false
 |.ifc _ _ _=>false
def F3(fr:List Ad):List AV→Bool
 |[]=>false
 |x::xs=>Ft fr x||F3 fr xs
end
def Do(fr:List Ad):List (Nat×AV)→List (Nat×AV)
 |[]=>[]
 |(j,x)::r=>(j,match Ft fr x with|true=>.top|false=>x)::Do fr r
def Cn(ks fr fl:List Ad):List (Ad×Blk)→List (Ad×Blk)
 |[]=>[]
 |(k,b)::r=>match ks.any (Bp k),fl.any (Bp k)||!F3 fr b.cells with
  |false,true=>(k,b)::Cn ks fr fl r
  |_,_=>Cn (k::ks) fr fl r
def FE:Option Nat→AV→List (Nat×AV)→List (Nat×AV)
 |some d,x,r=>(d,x)::r
 |none,_,r=>r
def Bu(os:Nat)(k:Ad):Bool:=Nat.beq k.1 1||(Nat.beq k.1 0&&Nat.ble (k.2+1) os)
def CS(os:Nat):List (Ad×Blk)→Bool
 |[]=>true
 |(k,b)::r=>Bu os k&&b.live&&!(r.any fun p=>Bp k p.1)&&CS os r
mutual
theorem uM{r:Ren}{b:Ad→Nat}{fr:List Ad}(a:∀k,k∉fr→b k=r.γ k):∀(x:AV),Ft fr x=false→ren ⟨r.κ,b,r.θ,r.H0,r.no⟩ x=ren r x
 |.ref k g off n,h=>by simp only[Ft]at h;simp only[ren];rw[a k (Qt h)]
 |.ptr k g off,h=>by simp only[Ft]at h;simp only[ren];rw[a k (Qt h)]
 |.mp k g,h=>by simp only[Ft]at h;simp only[ren];rw[a k (Qt h)]
 |.fn f xs ys,h=>by
  simp only[Ft,Bool.or_eq_false_iff]at h
  have c:=JA a xs h.1
  have d:=JA a ys h.2
  cases f<;>simp only[ren,c,d]
 |.agg xs,h=>by simp only[Ft]at h;simp only[ren,JA a xs h]
 |.tup xs,h=>by simp only[Ft]at h;simp only[ren,JA a xs h]
 |.top,_=>by simp[ren]
 |.d _,_=>by simp[ren]
 |.e0,_=>by simp[ren]
 |.p _,_=>by simp[ren]
 |.iptr _ _,_=>by simp[ren]
 |.ifc _ _ _,_=>by simp[ren]
theorem JA{r:Ren}{b:Ad→Nat}{fr:List Ad}(a:∀k,k∉fr→b k=r.γ k):∀(xs:List AV),F3 fr xs=false→An ⟨r.κ,b,r.θ,r.H0,r.no⟩ xs=An r xs
 |[],_=>by simp[An]
 |x::xs,h=>by
  simp only[F3,Bool.or_eq_false_iff]at h
  simp only[An,uM a x h.1,JA a xs h.2]
theorem Qt{k:Ad}{fr:List Ad}(h:fr.any (Bp k)=false):k∉fr:=fun hm=>by
 have:fr.any (Bp k)=true:=YO.2 ⟨k,hm,BX.2 rfl⟩
 grind
end
def BU:Code→Array Oper
 |.region _ ops _=>ops
 |_=>#[]
def oY:Code→Bool
 |.region _ _ false=>true
 |_=>false
def Hh{α:Type}:Nat→List α→List α
 |0,l=>l
 |_+1,[]=>[]
 |n+1,_::l=>Hh n l
def Hc{α:Type}:Nat→List α→List α
 |0,_=>[]
 |_+1,[]=>[]
 |n+1,x::l=>x::Hc n l
theorem bv{α:Type}:∀(n:Nat) (l:List α),Hh n l=l.drop n
 |0,l=>rfl
 |n+1,[]=>rfl
 |n+1,x::l=>bv n l
theorem Qe{α:Type}:∀(n:Nat) (l:List α),Hc n l=l.take n
 |0,l=>rfl
 |n+1,[]=>rfl
 |n+1,x::l=>by rw[Hc,Qe n l];rfl
def LO(P:Program)(n:Nat)(C:Cx)(c:Code)(k:Nat)(τ:St)(Q:Exit→St→Prop):Prop:=
 ∀γ σ a w,C.G γ→RG (C.r γ) C.l C.outs [] τ σ→R C.l n C.B σ a w→wpList P (BU c) (fun e d w'=>∃b,Is n C (Q e) b∧R C.l n C.B b d w') ((BU c).toList.drop k) a w
def Fu(c:Code)(k:Nat):Option (Option Nat×Operand×List Operand):=
 match Bh (BU c).toList k with
 |some o=>(match o.guard,o.op with
  |none,.call cl=>(match cl.callee with|.value f=>some (o.dst,f,cl.args.toList)|_=>none)
  |_,_=>none)
 |none=>none
def Ed(C:Cx):List (Ad×Blk)→Prop
 |[]=>True
 |(k,_)::r=>match Nat.beq k.1 1 with|true=>Ed C r|false=>C.no (C.κ k)∧Ed C r
def HA(H:Hp):List Ad→Prop
 |[]=>True
 |k::r=>EW (H k).cells∧HA H r
def I5(fr:List Ad)(Av:List (Ad×Blk)):Bool:=fr.all fun k=>Av.any fun p=>Bp k p.1
def J6(fr:List Ad)(fx:List Nat):Bool:=fr.all fun k=>!(Nat.beq k.1 0&&fx.any (Nat.beq k.2))
def Gf:List (Ad×Blk)→Bool
 |[]=>true
 |(_,b)::r=>Nat.beq b.g 0&&Gf r
def tz:Option Nat→(Nat→AV)→AV→Nat→AV
 |some d,s,v=>upd s d v
 |none,s,_=>s
def Ko(n:Nat):Option Nat→Bool
 |some d=>Nat.ble (d+1) n
 |none=>true
section
variable {P:Program} {T:Nat→Option TI} {n:Nat} {C:Cx} {τ:St} {Q:Exit→St→Prop}
theorem Zot{c:Code}(b:oY c=true)(h:LO P n C c 0 τ Q):LW P n C c τ Q:=by
 cases c with
 |region id ops d=>
  cases d with
  |true=>cases b
  |false=>
   obtain⟨i,rfl⟩:∃l:List Oper,ops=l.toArray:=⟨ops.toList,by simp⟩
   intro γ σ g e a w f
   have:=h γ σ a w g e f
   simp only[BU,N6]at this
   exact wp_region_lit this
 |_=>cases b
theorem ZMF(d:CxOk C)(A:A8 P T){os:Nat}{fx:List Nat}(y:C.outs=os)(v:C.fx=fx){c:Code}{k:Nat}(m:Nat)(a:AT)(lf:Lf)(q:Ren→(St→Prop)→Prop)
  (E:∀r Φ,Bf r os a τ (fun τ a=>FC P T C.l n r ((BU c).toList.map (·.dst)) (Hc m (Hh k (BU c).toList)) [] a (fun τ' env f=>Bf r os f (Dq env τ') (fun τ _=>Et fx lf τ Φ)) τ)=q r Φ)
  (h:∀r,r.θ=C.θ→r.H0=C.H0→r.κ=C.κ→r.no=C.no→q r (fun τ'=>LO P n C c (k+m) τ' Q)):LO P n C c k τ Q:=by
 subst y
 subst v
 intro γ σ g w D x z
 have o:=h (C.r γ) rfl rfl rfl rfl
 rw[←E]at o
 obtain⟨R,p,N,u,i,j⟩:=BR (n:=n) d a o x
 have e:(BU c).toList.drop k=Hc m (Hh k (BU c).toList)++(BU c).toList.drop (k+m):=by
  rw[Qe,bv,←Lb,Ld]
 rw[e]
 refine JC (d.ren γ) A (B:=C.B) _ (fun τ' l f U b w' J K L=>?_) _ [] p R N g w u i (j _ _ z)
 obtain⟨V,s,t⟩:=L4 (n:=n) K
 obtain⟨X,S,W,f1,f2,f3⟩:=BR (n:=n) d f J s
 obtain⟨M,Y,O,F,G,H,I⟩:=FZ (n:=n) d f1 D f2
 exact G M O b w' F H (I _ _ (f3 _ _ (t _ _ L)))
theorem ZJe(b:CxOk C)(A:A8 P T){os:Nat}{fx:List Nat}(y:C.outs=os)(v:C.fx=fx){c:Code}{k:Nat}(a:AT)(lf:Lf)(q:Ren→(Exit→St→Prop)→Prop)
  (E:∀r Φ,Bf r os a τ (fun τ a=>FC P T C.l n r ((BU c).toList.map (·.dst)) (Hh k (BU c).toList) [] a (fun τ' env d=>Bf r os d (Dq env τ') (fun τ _=>Et fx lf τ (Φ .normal))) τ)=q r Φ)
  (h:∀r,r.θ=C.θ→r.H0=C.H0→r.κ=C.κ→r.no=C.no→q r Q):LO P n C c k τ Q:=by
 subst y
 subst v
 intro γ σ f w D x z
 have m:=h (C.r γ) rfl rfl rfl rfl
 rw[←E]at m
 obtain⟨O,p,N,u,g,i⟩:=BR (n:=n) b a m x
 have e:(BU c).toList.drop k=Hh k (BU c).toList++[]:=by rw[bv,K9]
 rw[e]
 refine JC (b.ren γ) A (B:=C.B) _ (fun τ' l d U j w' J K L=>?_) _ [] p O N f w u g (i _ _ z)
 obtain⟨V,s,t⟩:=L4 (n:=n) K
 obtain⟨X,S,W,f1,f2,f3⟩:=BR (n:=n) b d J s
 obtain⟨M,R,o,F,G,H,I⟩:=FZ (n:=n) b f1 D f2
 unfold wpList
 exact⟨o,⟨M,R,o,F,G,H,Wk.refl _⟩,I _ _ (f3 _ _ (t _ _ L))⟩
theorem Qh:∀{hs:List (Ad×Blk)},Gf hs=true→∀k,(AI hs k).g=0
 |[],_,k=>rfl
 |(k',b)::r,h,k=>by
  simp only[Gf,Bool.and_eq_true]at h
  simp only[AI]
  split
  ·exact Ya h.1
  ·exact Qh h.2 k
theorem wd{k:Ad}{ks:List Ad}:ks.any (Bp k)=true↔k∈ks:=by
 rw[YO]
 exact⟨fun⟨q,a,b⟩=>by rw[BX.1 b];exact a,fun h=>⟨k,h,BX.2 rfl⟩⟩
theorem z6(a b:List (Ad×Blk))(k:Ad):AI (a++b) k=if k∈a.map (·.1)then AI a k else AI b k:=by
 induction a with
 |nil=>simp
 |cons p a f=>
  obtain⟨q,d⟩:=p
  simp only[K5,AI,YS,Yy]
  cases c:Bp q k with
  |true=>rw[if_pos (.inl (BX.1 c).symm)]
  |false=>
   have:k≠q:=fun e=>by rw[BX.2 e.symm]at c;cases c
   grind
theorem L5{fr fl:List Ad}:∀(hs:List (Ad×Blk)) (ks:List Ad) (k:Ad),(k∈ks→AI (Cn ks fr fl hs) k=D5)∧(k∉ks→(AI (Cn ks fr fl hs) k=AI hs k∧(k∈fl∨F3 fr (AI hs k).cells=false))∨AI (Cn ks fr fl hs) k=D5)
 |[],ks,k=>⟨fun _=>rfl,fun _=>.inr rfl⟩
 |(q,b)::r,ks,k=>by
  simp only[Cn]
  split
  ·rename_i d a
   have f:q∉ks:=fun hm=>by rw[wd.2 hm]at d;cases d
   simp only[AI]
   cases c:Bp q k with
   |true=>
    have c:=BX.1 c
    subst c
    refine⟨fun h=>absurd h f,fun _=>.inl ⟨rfl,?_⟩⟩
    simp only[Bool.or_eq_true,Bool.not_eq_true']at a
    rcases a with a|a
    ·exact .inl (wd.1 a)
    grind
   |false=>exact L5 r ks k
  ·obtain⟨d,a⟩:=L5 (fr:=fr) (fl:=fl) r (q::ks) k
   refine⟨fun h=>d (Yw _ h),fun h=>?_⟩
   by_cases c:k=q
   ·grind
   ·rcases a (fun hm=>(Yy.1 hm).elim c h)with⟨i,j⟩|e
    ·have:Bp q k=false:=by
      cases g:Bp q k with
      |true=>exact absurd (BX.1 g).symm c
      |false=>rfl
     simp only[AI,this]
     grind
    grind
theorem P1{r:Ren}:∀(Av:List (Ad×Blk)) (H:Hp) (q:Ad),(∀p∈Av,r.κ p.1≠q)→Cw r Av H q=H q
 |[],H,q,h=>rfl
 |(k,b)::rest,H,q,h=>by
  simp only[Cw]
  rw[P1 rest _ q (fun p a=>h p (Yw _ a)),AJ _ _ (fun e=>h (k,b) (YE ..) e.symm)]
theorem wo{r:Ren}{os:Nat}(d:∀q k:Ad,Bu os q=true→Bu os k=true→q≠k→r.κ q≠r.κ k):∀(Av:List (Ad×Blk)) (H:Hp),CS os Av=true→∀k b,(k,b)∈Av→Cw r Av H (r.κ k)=AK r k b∧AI Av k=b∧Bu os k=true∧b.live=true
 |[],H,_,k,b,hm=>by cases hm
 |(q,c)::rest,H,g,k,b,hm=>by
  simp only[CS,Bool.and_eq_true,Bool.not_eq_true']at g
  obtain⟨⟨⟨i,u⟩,j⟩,m⟩:=g
  have f:∀p∈rest,p.1≠q:=fun p a e=>by
   have:(rest.any fun p=>Bp q p.1)=true:=YO.2 ⟨p,a,BX.2 e.symm⟩
   rw[this]at j;cases j
  have h:∀(l:List (Ad×Blk)),CS os l=true→∀p∈l,Bu os p.1=true:=by
   intro l
   induction l with
   |nil=>intro _ p a;cases a
   |cons p l w=>
    obtain⟨x,y⟩:=p
    intro hl p a
    simp only[CS,Bool.and_eq_true]at hl
    rcases Yy.1 a with rfl|a
    ·exact hl.1.1.1
    ·exact w hl.2 p a
  simp only[Cw]
  rcases Yy.1 hm with e|hm
  ·cases e
   refine⟨?_,by simp only[AI,BX.2 rfl],i,u⟩
   rw[P1 rest _ _ (fun p a=>d _ _ (h rest m p a) i (f p a)),AM]
  ·obtain⟨n,o,s,t⟩:=wo d rest (updH H (r.κ q) (AK r q c)) m k b hm
   refine⟨n,?_,s,t⟩
   have:Bp q k=false:=by
    cases v:Bp q k with
    |true=>exact absurd (BX.1 v).symm (f _ hm)
    |false=>rfl
   simp only[AI,this]
   exact o
theorem dK:∀{Av:List (Ad×Blk)},Ed C Av→∀p∈Av,p.1.1≠1→C.no (C.κ p.1)
 |(k,b)::r,h,p,c,a=>by
  simp only[Ed]at h
  split at h
  ·rename_i d
   rcases Yy.1 c with rfl|c
   ·exact absurd (Ya d) a
   ·exact dK h p c a
  ·rcases Yy.1 c with rfl|c
   ·exact h.1
   ·exact dK h.2 p c a
theorem dz{H:Hp}:∀{ks:List Ad},HA H ks→∀k∈ks,EW (H k).cells
 |q::r,h,k,a=>by
  rcases Yy.1 a with rfl|a
  ·exact h.1
  ·exact dz h.2 k a
theorem EP{os:Nat}{k:Ad}(h:Bu os k=true):k.1=1∨(k.1=0∧k.2<os):=by
 simp only[Bu,Bool.or_eq_true,Bool.and_eq_true]at h
 rcases h with h|⟨a,b⟩
 ·exact .inl (Ya h)
 ·exact .inr ⟨Ya a,Yd b⟩
theorem vT{fr:List Ad}:∀(ss:List (Nat×AV)) (j:Nat),AR (Do fr ss) j=.top∨(AR (Do fr ss) j=AR ss j∧Ft fr (AR ss j)=false)
 |[],j=>.inl rfl
 |(i,x)::r,j=>by
  simp only[Do,AR]
  split
  ·grind
  ·exact vT r j
theorem ZwD(hC:CxOk C){os:Nat}{fx:List Nat}(hO:C.outs=os)(hF:C.fx=fx){c:Code}{k:Nat}{ss:List (Nat×AV)}{hs:List (Ad×Blk)}(l:Option Nat)(fo:Operand)(aZ:List Operand)(m:Fu c k=some (l,fo,aZ))
  (f:FuncId) (first u xs:List AV) (hf:ev (AR ss) fo=.fn (.func f) first u) (hxs:first++aZ.map (ev (AR ss))++u=xs) (ks:List Ad) (J:List (Ad×Blk)) (hhb:(ks.map fun k=>(k,AI hs k))=J)
  {ι:Type} (I:ι→Prop) (xF:ι→AV) (s:ι→List (Ad×Blk)) (fr fl:List Ad) (M:(J6 fr fx&&Gf hs&&Ko n l&&ks.all (Bu os))=true) (t:∀i,(CS os (s i)&&I5 fr (s i))=true) (H:∀i,Ed C (s i)) (hfl:HA (AI hs) fl)
  (T:∀r:Ren,r.θ=C.θ→r.H0=C.H0→r.κ=C.κ→r.no=C.no→∀V,(∀p∈J,(V (r.κ p.1)).g=r.γ p.1+p.2.g∧(p.2.live=true→V (r.κ p.1)=AK r p.1 p.2))→(∀k:Ad,k.1≤C.l→¬r.no k→V k=r.H0 k)→
   Zcr P f (C.l+1) (An r xs) V (fun y W=>∃i,I i∧∃a:Ad→Nat,(∀k,k∉fr→a k=r.γ k)∧y=ren ⟨r.κ,a,r.θ,r.H0,r.no⟩ (xF i)∧W=Cw ⟨r.κ,a,r.θ,r.H0,r.no⟩ (s i) V))
  (h:∀i,I i→LO P n C c (k+1) (Ab (FE l (xF i) (Do fr ss)) (s i++Cn ((s i).map (·.1)) fr fl hs)) Q):LO P n C c k (Ab ss hs) Q:=by
 subst hO
 subst hF
 simp only[Bool.and_eq_true]at M
 obtain⟨⟨⟨k3,k4⟩,k5⟩,k6⟩:=M
 intro γ σ act w hg z hR
 have hr:=hC.ren γ
 have hs':∀j,σ.s j=ren (C.r γ) (AR ss j):=fun j=>(z.s j).1 A5
 have A:∀y:Operand,ev σ.s y=ren (C.r γ) (ev (AR ss) y):=fun y=>IA (c:=[]) z A5 (by cases y<;>rfl)
 unfold Fu at m
 split at m
 case h_2=>cases m
 rename_i o ho
 split at m
 case h_2=>cases m
 rename_i cl hgd hopc
 split at m
 case h_2=>cases m
 rename_i fo' hcal
 simp only[Yf,Fi]at m
 obtain⟨hd,rfl,rfl⟩:=m
 rw[BT]at ho
 have hlt:k<(BU c).toList.length:=by
  grind
 have U:(BU c).toList.drop k=o::(BU c).toList.drop (k+1):=by
  rw[Y7 hlt]
  grind
 rw[U]
 have L:∀q k:Ad,Bu C.outs q=true→Bu C.outs k=true→q≠k→(C.r γ).κ q≠(C.r γ).κ k:=fun q k Z h2 h3=>hr.ne (EP Z) (EP h2) h3
 have hA:=T (C.r γ) rfl rfl rfl rfl σ.H (fun p E=>by
  rw[←hhb]at E
  obtain⟨q,g,rfl⟩:=YC.1 E
  have hq':=EP (Ym.1 k6 q g)
  refine⟨?_,fun hl=>z.h q hl⟩
  obtain⟨q1,q2⟩:=q
  simp only at hq'
  rcases hq' with rfl|⟨rfl,h2⟩
  ·have:=z.g q2
   rw[←hr.own]at this
   exact this
  ·exact z.go q2 h2) z.o
 have S:An (C.r γ) xs=An (C.r γ) first++cl.args.toList.map (ev σ.s)++An (C.r γ) u:=by
  rw[←hxs,Fm,Fm]
  congr 2
  rw[Ej,GR]
  exact YP fun y _=>(A y).symm
 have hfe:ev σ.s fo'=.fn (.func f) (An (C.r γ) first) (An (C.r γ) u):=by rw[A,hf];simp[ren]
 have hrop:Bo P C.l n o (fun σ'=>∃i,I i∧∃a:Ad→Nat,(∀q,q∉fr→a q=γ q)∧σ'=⟨tz l σ.s (ren (C.r a) (xF i)),Cw (C.r a) (s i) σ.H⟩) σ:=by
  unfold Bo
  rw[hopc]
  simp only[hcal,hfe]
  rw[S]at hA
  refine hA.mono fun y W ⟨i,hi,a,N,e2,e3⟩=>?_
  unfold Lz B2
  rw[hd]
  cases l with
  |none=>exact⟨i,hi,a,N,by rw[e3];rfl⟩
  |some d=>exact⟨Yd k5,i,hi,a,N,by rw[e2,e3];rfl⟩
 refine ao (by simp[Region.wanted,hgd]) (JM hrop) hR fun σ' Y w' hK O=>?_
 obtain⟨i,hi,a,N,rfl⟩:=hK
 have h:=h i hi
 have H:=H i
 have t:=t i
 generalize s i=Av at h H t O
 generalize xF i=x at h O
 simp only[Bool.and_eq_true]at t
 obtain⟨k1,k2⟩:=t
 have hsub:∀q,q∈fr→∃b,(q,b)∈Av:=fun q g=>by
  obtain⟨p,E,hk⟩:=YO.1 (Ym.1 k2 q g)
  rw[BX.1 hk];exact⟨p.2,E⟩
 let τ2:St:=Ab (FE l x (Do fr ss)) (Av++Cn (Av.map (·.1)) fr fl hs)
 have D:∀q,AI (Av++Cn (Av.map (·.1)) fr fl hs) q=if q∈Av.map (·.1)then AI Av q else AI (Cn (Av.map (·.1)) fr fl hs) q:=fun q=>z6 _ _ _
 have hin:∀q,q∈Av.map (·.1)→∃b,(q,b)∈Av:=fun q g=>by obtain⟨p,E,rfl⟩:=YC.1 g;exact⟨p.2,E⟩
 have F:∀q b,(q,b)∈Av→Cw (C.r a) Av σ.H ((C.r a).κ q)=AK (C.r a) q b∧AI Av q=b∧Bu C.outs q=true∧b.live=true:=wo (r:=C.r a) L Av σ.H k1
 have B:∀q,q∉Av.map (·.1)→Bu C.outs q=true→Cw (C.r a) Av σ.H ((C.r a).κ q)=σ.H ((C.r a).κ q)∧a q=γ q:=fun q g v=>by
  refine⟨P1 _ _ _ fun p E=>L _ _ (F p.1 p.2 E).2.2.1 v fun e=>g (YC.2 ⟨p,E,e⟩),N q fun hf=>?_⟩
  grind
 have K:∀q,Bu C.outs q=true→(σ.H (C.κ q)).g=γ q→(Cw (C.r a) Av σ.H (C.κ q)).g=a q+(AI (Av++Cn (Av.map (·.1)) fr fl hs) q).g:=fun q v hq0=>by
  rw[D]
  split
  ·rename_i hm
   obtain⟨b,J⟩:=hin q hm
   obtain⟨a1,X,_⟩:=F q b J
   rw[show C.κ q=(C.r a).κ q from rfl,a1,X]
   rfl
  ·rename_i hm
   obtain⟨a1,X⟩:=B q hm v
   rw[show C.κ q=(C.r a).κ q from rfl,a1,X]
   have:(AI (Cn (Av.map (·.1)) fr fl hs) q).g=0:=by
    rcases(L5 (fr:=fr) (fl:=fl) hs (Av.map (·.1)) q).2 hm with⟨e,_⟩|e
    ·rw[e];exact Qh k4 q
    ·rw[e];rfl
   rw[this]
   exact hq0
 have hG2:RG (C.r a) C.l C.outs [] τ2 ⟨fun j=>ren (C.r a) (τ2.s j),Cw (C.r a) Av σ.H⟩:=by
  refine⟨fun j=>⟨fun _=>rfl,fun hn=>absurd A5 hn⟩,fun q g=>?_,fun d=>?_,fun i hi=>?_,fun q g=>?_,fun q g hn=>?_⟩
  ·show Cw (C.r a) Av σ.H ((C.r a).κ q)=AK (C.r a) q (AI (Av++Cn (Av.map (·.1)) fr fl hs) q)
   replace g:(AI (Av++Cn (Av.map (·.1)) fr fl hs) q).live=true:=g
   rw[D]at g⊢
   split at g
   ·grind
   ·rename_i hm
    rw[if_neg hm]
    rcases(L5 (fr:=fr) (fl:=fl) hs (Av.map (·.1)) q).2 hm with⟨e,e'⟩|e
    ·rw[e]at g⊢
     have v:=z.k q g
     have t:Bu C.outs q=true:=by
      obtain⟨q1,q2⟩:=q
      simp only at v
      simp only[Bu,Bool.or_eq_true,Bool.and_eq_true]
      rcases v with rfl|⟨rfl,h2⟩
      ·exact .inl rfl
      ·exact .inr ⟨rfl,kE h2⟩
     obtain⟨a1,X⟩:=B q hm t
     rw[a1]
     have J:=z.h q g
     have G:An (C.r a) (AI hs q).cells=An (C.r γ) (AI hs q).cells:=by
      rcases e' with e'|e'
      ·rw[F0 (dz hfl q e'),F0 (dz hfl q e')]
      ·exact JA (r:=C.r γ) N _ e'
     show σ.H ((C.r γ).κ q)=_
     rw[J]
     simp only[AK]
     rw[G,show(C.r a).γ q=a q from rfl,X]
     rfl
    ·rw[e]at g;cases g
  ·have:=K (1,d) rfl (by
    have:=z.g d
    rw[show((Ab ss hs).H (1,d)).g=0 from Qh k4 _]at this
    rw[hC.own];exact this)
   rw[hC.own]at this
   exact this
  ·exact K (0,i) (by simp only[Bu,Bool.or_eq_true,Bool.and_eq_true];exact .inr ⟨rfl,kE hi⟩) (by
    have:=z.go i hi
    rw[show((Ab ss hs).H (0,i)).g=0 from Qh k4 _]at this
    exact this)
  ·replace g:(AI (Av++Cn (Av.map (·.1)) fr fl hs) q).live=true:=g
   rw[D]at g
   split at g
   ·rename_i hm
    obtain⟨b,J⟩:=hin q hm
    exact EP (F q b J).2.2.1
   ·rename_i hm
    rcases(L5 (fr:=fr) (fl:=fl) hs (Av.map (·.1)) q).2 hm with⟨e,e'⟩|e
    ·rw[e]at g;exact z.k q g
    ·rw[e]at g;cases g
  ·show Cw (C.r a) Av σ.H q=C.H0 q
   rw[P1 _ _ _ fun p E e=>?_]
   ·exact z.o q g hn
   ·by_cases Z:p.1.1=1
    ·obtain⟨⟨p1,p2⟩,p3⟩:=p
     simp only at Z
     subst Z
     rw[show(C.r a).κ (1,p2)=(C.l+1,p2)from hC.own p2]at e
     grind
    ·exact hn (by rw[←e];exact dK H p E Z)
 refine h a _ Y w' (hC.G γ a (fun i hi=>N _ fun hm=>?_) hg) hG2 (R.weaken O fun j=>?_)
 ·have:=Ym.1 k3 _ hm
  simp only[Bool.not_eq_true',Bool.and_eq_false_iff]at this
  rcases this with h|h
  ·cases h
  ·have:(C.fx.any (Nat.beq i))=true:=YO.2 ⟨i,hi,by simp⟩
   grind
 ·have old:ren (C.r a) (AR (Do fr ss) j)=σ.s j∨ren (C.r a) (AR (Do fr ss) j)=.top:=by
   rcases vT (fr:=fr) ss j with e|⟨e,e'⟩
   ·right;rw[e];simp[ren]
   ·left
    rw[e,hs' j]
    exact uM (r:=C.r γ) N _ e'
  show ren (C.r a) (AR (FE l x (Do fr ss)) j)=_∨ren (C.r a) (AR (FE l x (Do fr ss)) j)=.top
  cases l with
  |none=>exact old
  |some d=>
   simp only[FE,AR,tz,upd]
   cases hj:Nat.beq d j with
   |true=>
    have:=Ya hj
    grind
   |false=>
    have:j≠d:=fun e=>by rw[e]at hj;simp at hj
    grind
theorem ZFF(D:CxOk C){os:Nat}{fx:List Nat}(F:C.outs=os)(E:C.fx=fx){c:Code}{k:Nat}{ss:List (Nat×AV)}{hs:List (Ad×Blk)}(e:Option Nat)(l:Operand)(j:List Operand)(q:Fu c k=some (e,l,j))
  (f:FuncId) (first d xs:List AV) (G:ev (AR ss) l=.fn (.func f) first d) (t:first++j.map (ev (AR ss))++d=xs) (ks:List Ad) (m:List (Ad×Blk)) (p:(ks.map fun k=>(k,AI hs k))=m)
  (x:AV) (Av:List (Ad×Blk)) (fr fl:List Ad) (i:(CS os Av&&I5 fr Av&&J6 fr fx&&Gf hs&&Ko n e&&ks.all (Bu os))=true) (s:Ed C Av) (o:HA (AI hs) fl)
  (g:∀r:Ren,r.θ=C.θ→r.H0=C.H0→r.κ=C.κ→r.no=C.no→Gh P C.l r f xs m x Av fr)
  (h:LO P n C c (k+1) (Ab (FE e x (Do fr ss)) (Av++Cn (Av.map (·.1)) fr fl hs)) Q):LO P n C c k (Ab ss hs) Q:=by
 simp only[Bool.and_eq_true]at i
 obtain⟨⟨⟨⟨⟨I,J⟩,K⟩,L⟩,M⟩,N⟩:=i
 exact ZwD D F E e l j q f first d xs G t ks m p (ι:=Unit) (fun _=>True) (fun _=>x) (fun _=>Av) fr fl (by simp only[Bool.and_eq_true];exact⟨⟨⟨K,L⟩,M⟩,N⟩) (fun _=>by simp only[Bool.and_eq_true];exact⟨I,J⟩) (fun _=>s) o
  (fun r w z A B u a b=>(g r w z A B u a b).mono fun y v H=>⟨(),trivial,H⟩) fun _ _=>h
end
def Dk(l:Nat)(ks:List Ad):Ad→Ad
 |(0,i)=>match Bh ks i with|some k=>k|none=>(0,0)
 |(_+1,d)=>(l+1,d)
def FL(a:List Nat):Ad→Nat
 |(0,i)=>match Bh a i with|some g=>g|none=>0
 |(_+1,_)=>0
def BP(l:Nat)(ks:List Ad)(a:List Nat)(θ:Nat→AV)(H:Hp):Ren:=⟨Dk l ks,FL a,θ,H,fun k=>k∈ks⟩
def GK(l:Nat)(ks:List Ad)(a:List Nat)(r:Ren):Prop:=r.κ=Dk l ks∧∀i,i<ks.length→r.γ (0,i)=FL a (0,i)
def Cd(r:Ren):Nat→List Blk→List Blk
 |_,[]=>[]
 |i,b::a=>AK r (0,i) b::Cd r (i+1) a
def CT(H:Hp):List Ad→List Blk→Hp
 |k::ks,b::a=>CT (updH H k b) ks a
 |_,_=>H
theorem JK{r:Ren}{k:Ad}{g:Nat}{e:TypeId}{sz:Nat}{cs:List AV}(h:EW cs):AK r k ⟨g,true,e,sz,cs⟩=⟨r.γ k+g,true,e,sz,cs⟩:=by
 simp only[AK,F0 h]
theorem aM:∀(ks:List Ad) (a:List Blk) (H:Hp) (q:Ad),q∉ks→CT H ks a q=H q
 |[],a,H,q,h=>by cases a<;>rfl
 |k::ks,[],H,q,h=>rfl
 |k::ks,b::a,H,q,h=>by
  simp only[CT]
  rw[aM ks a _ q (fun hm=>h (Yw _ hm)),AJ _ _ (fun e=>h (by rw[e];exact YE ..))]
theorem xd:∀(ks:List Ad) (a:List Blk) (H:Hp),ks.Nodup→∀(j:Nat) (k:Ad) (b:Blk),ks[j]?=some k→a[j]?=some b→CT H ks a k=b
 |[],a,H,_,j,k,b,h,_=>by simp at h
 |q::ks,[],H,_,_,_,_,_,h=>by simp at h
 |q::ks,c::a,H,e,j,k,b,d,hb=>by
  simp only[CT]
  rw[List.nodup_cons]at e
  cases j with
  |zero=>
   simp only[YQ,Yf]at d hb
   subst d;subst hb
   rw[aM ks a _ _ e.1,AM]
  |succ j=>
   simp only[Y4]at d hb
   exact xd ks a _ e.2 j k b d hb
theorem wx{r:Ren}:∀(a:List Blk) (i j:Nat),(Cd r i a)[j]?=(a[j]?).map (AK r (0,i+j))
 |[],i,j=>by simp[Cd]
 |b::a,i,0=>by simp[Cd]
 |b::a,i,j+1=>by
  simp only[Cd,Y4,wx a (i+1) j,show i+1+j=i+(j+1)from by omega]
theorem uT{P:Program}{T:Nat→Option TI}{n:Nat}{f:FuncId}{fn:Func}(J:List ResultVar)(c:Code){l:Nat}{xs:List AV}{H:Hp}{g:AV→Hp→Prop}(ks:List Ad)(t:List Nat)(fx:List Nat)(θ:Nat→AV)(ys:List AV)(hs:List (Ad×Blk))(LPost:AV→List Blk→Prop)
  (V:P.funcs[f]?=some fn) (hb:fn.body=some c) (s:(fn.name== "runtime.NumGoroutine")=false) (Z:fn.ntmps=n) (hr:fn.results.toList=J) (hx:xs.length≤n) (S:A8 P T)
  (D:∀k∈ks,k.1≤l) (u:ks.Nodup) (W:∀d,AI hs (1,d)=D5) (F:∀k,(AI hs k).live=true→k.1=0∧k.2<ks.length)
  (R:∀i k,ks[i]?=some k→(H k).g=FL t (0,i)+(AI hs (0,i)).g∧((AI hs (0,i)).live=true→H k=AK (BP l ks t θ H) (0,i) (AI hs (0,i))))
  (I:An (BP l ks t θ H) ys=xs)
  (h:∀C,CxOk C→C.outs=ks.length→C.fx=fx→C.l=l→C.H0=H→C.θ=θ→C.κ=Dk l ks→C.no=(fun k=>k∈ks)→LW P n C c (Ab (Dh 0 ys) hs) (FQ T J ks.length LPost))
  (v:∀y b,LPost y b→b.length=ks.length∧(∀x∈b,x.live=true)∧∀r:Ren,r.κ=Dk l ks→r.θ=θ→r.H0=H→r.no=(fun k=>k∈ks)→(∀i∈fx,r.γ (0,i)=FL t (0,i))→g (ren r y) (CT H ks (Cd r 0 b))):Zcr P f l xs H g:=by
 let C:Base→Cx:=fun B=>⟨l,B,Dk l ks,θ,H,ks.length,fun k=>k∈ks,fx,fun γ=>∀i∈fx,γ (0,i)=FL t (0,i)⟩
 have a:∀i,i<ks.length→ks[i]?=some (Dk l ks (0,i)):=fun i hi=>by
  show _=some (match Bh ks i with|some k=>k|none=>(0,0))
  rw[BT,Yb hi]
 have E:∀(i:Nat) (k:Ad),ks[i]?=some k→i<ks.length:=fun i k hi=>by
  grind
 have K:∀B,CxOk (C B):=fun B=>by
  refine⟨fun _=>rfl,fun i hi=>D _ (Yi (a i hi)),fun i j hi Y e=>?_,fun k w=>?_,fun γ γ' he A i hi=>by rw[he i hi];exact A i hi⟩
  ·have m:=a i hi
   have o:=a j Y
   rw[show Dk l ks (0,i)=Dk l ks (0,j)from e]at m
   have Q:ks[i]?=ks[j]?:=m.trans o.symm
   exact(List.getElem?_inj hi u).1 Q
  ·obtain⟨i,hi⟩:=YK.1 (show k∈ks from w)
   grind
 refine wJ J C (γ:=FL t) (LPost:=LPost) (ys:=ys) (hs:=hs) V hb s Z hr hx S K (fun B=>⟨rfl,rfl,rfl,fun i _=>rfl⟩) (fun B=>I) (fun _=>rfl) W (fun B k w=>?_) (fun B i hi=>?_) (fun B γ y b N A hy L _=>?_) (fun B=>h _ (K B) rfl rfl rfl rfl rfl rfl rfl)
 ·obtain⟨m,o⟩:=F k w
  obtain⟨k1,M⟩:=k
  simp only at m o
  subst m
  exact⟨rfl,o,(R M _ (a M o)).2 w⟩
 ·grind
 ·obtain⟨U,z,v⟩:=v y b hy
  have v:=v ((C B).r γ) rfl rfl rfl rfl fun i hi=>A i hi
  have O:N=CT H ks (Cd ((C B).r γ) 0 b):=by
   funext q
   by_cases G:q∈ks
   ·obtain⟨i,hi⟩:=YK.1 G
    have X:=E i q hi
    have p:b[i]?=some b[i]:=Yb (by omega)
    have m:=L.live i _ p (z _ (Yi p))
    have o:Dk l ks (0,i)=q:=by
     grind
    rw[show(C B).κ (0,i)=q from o]at m
    rw[m,xd ks _ H u i q (AK ((C B).r γ) (0,i) b[i]) hi]
    rw[wx,p,Yz]
    rfl
   ·rw[aM ks _ H q G]
    exact L.o q G
  rw[O];exact v
theorem Zk8{P:Program}{T:Nat→Option TI}{n:Nat}{f:FuncId}{fn:Func}(w:List ResultVar)(c:Code){l:Nat}{xs:List AV}{H:Hp}{a:AV→Hp→Prop}(ks:List Ad)(e:List Nat)(fx:List Nat)(θ:Nat→AV)(ys:List AV)(hs:List (Ad×Blk))(LPost:AV→List Blk→Prop)
  (F:P.funcs[f]?=some fn) (hb:fn.body=some c) (g:(fn.name== "runtime.NumGoroutine")=false) (I:fn.ntmps=n) (J:fn.results.toList=w) (K:xs.length≤n) (D:A8 P T)
  (q:∀k∈ks,k.1≤l) (t:ks.Nodup) (p:∀i,i<ks.length→i∈fx) (G:∀d,AI hs (1,d)=D5) (s:∀k,(AI hs k).live=true→k.1=0∧k.2<ks.length)
  (B:∀i k,ks[i]?=some k→(H k).g=FL e (0,i)+(AI hs (0,i)).g∧((AI hs (0,i)).live=true→H k=AK (BP l ks e θ H) (0,i) (AI hs (0,i))))
  (v:An (BP l ks e θ H) ys=xs)
  (h:∀C,CxOk C→C.outs=ks.length→C.fx=fx→C.l=l→C.H0=H→C.θ=θ→C.κ=Dk l ks→C.no=(fun k=>k∈ks)→LW P n C c (Ab (Dh 0 ys) hs) (FQ T w ks.length LPost))
  (u:∀y b,LPost y b→b.length=ks.length∧(∀x∈b,x.live=true)∧∃Y' bs',(∀r,GK l ks e r→ren r y=Y')∧(∀r,GK l ks e r→Cd r 0 b=bs')∧a Y' (CT H ks bs')):Zcr P f l xs H a:=by
 refine uT w c ks e fx θ ys hs LPost F hb g I J K D q t G s B v h fun y b hy=>?_
 obtain⟨m,o,Y',bs',E,hB,u⟩:=u y b hy
 refine⟨m,o,fun r z _ _ _ A=>?_⟩
 have j:GK l ks e r:=⟨z,fun i hi=>A i (p i hi)⟩
 rw[E _ j,hB _ j];exact u
theorem Zol{P:Program}{T:Nat→Option TI}{n:Nat}{f:FuncId}{fn:Func}(v:List ResultVar)(c:Code){l:Nat}{xs:List AV}{H:Hp}{a:AV→Hp→Prop}(ks:List Ad)(g:List Nat)(fx:List Nat)(θ:Nat→AV)(ys:List AV)(hs:List (Ad×Blk))(Y:AV)(j:List Blk){Y':AV}{bs':List Blk}
  (D:P.funcs[f]?=some fn) (hb:fn.body=some c) (e:(fn.name== "runtime.NumGoroutine")=false) (F:fn.ntmps=n) (I:fn.results.toList=v) (J:xs.length≤n) (A:A8 P T)
  (q:∀k∈ks,k.1≤l) (t:ks.Nodup) (p:∀i,i<ks.length→i∈fx) (E:∀d,AI hs (1,d)=D5) (s:∀k,(AI hs k).live=true→k.1=0∧k.2<ks.length)
  (z:∀i k,ks[i]?=some k→(H k).g=FL g (0,i)+(AI hs (0,i)).g∧((AI hs (0,i)).live=true→H k=AK (BP l ks g θ H) (0,i) (AI hs (0,i))))
  (u:An (BP l ks g θ H) ys=xs) (m:j.length=ks.length) (o:∀b∈j,b.live=true) (B:∀r,GK l ks g r→ren r Y=Y') (hB:∀r,GK l ks g r→Cd r 0 j=bs')
  (h:∀C,CxOk C→C.outs=ks.length→C.fx=fx→C.l=l→C.H0=H→C.θ=θ→C.κ=Dk l ks→C.no=(fun k=>k∈ks)→LW P n C c (Ab (Dh 0 ys) hs) (FQ T v ks.length (fun y b=>y=Y∧b=j)))
  (G:a Y' (CT H ks bs')):Zcr P f l xs H a:=by
 exact Zk8 v c ks g fx θ ys hs (fun y b=>y=Y∧b=j) D hb e F I J A q t p E s z u h fun y b ⟨w,x⟩=>by subst w;subst x;exact⟨m,o,Y',bs',B,hB,G⟩
section
variable {P:Program} {l:Nat} {r:Ren} {f:FuncId} {xs xs':List AV} {hb Av:List (Ad×Blk)} {x x':AV}
theorem Zwp(e:An r xs=xs')(g:ren r x=x')(h:∀a,(∀p∈hb,(a (r.κ p.1)).g=r.γ p.1+p.2.g∧(p.2.live=true→a (r.κ p.1)=AK r p.1 p.2))→(∀k:Ad,k.1≤l→¬r.no k→a k=r.H0 k)→Zcr P f (l+1) xs' a (fun y b=>y=x'∧b=Cw r Av a)):
  Gh P l r f xs hb x Av []:=fun a hb i=>by
 rw[e]
 exact(h a hb i).mono fun y b ⟨c,d⟩=>⟨r.γ,fun _ _=>rfl,by rw[c,←g],d⟩
end
theorem we{α:Type}{e:α→List D}{r:Ren}{k:Ad}(xs:List α):EC r k (Af e xs):=by
 unfold EC
 rw[F0 (AZ e xs)]
 refine Ym.2 fun x a=>?_
 obtain⟨d,_,rfl⟩:=YC.1 a
 rfl
theorem wU{r:Ren}{k:Ad}{vs:List AV}(h:(An r vs).all (AV.low (r.κ k).1)=true):EC r k vs:=h
theorem x8{r:Ren}{k:Ad}(ds:List D):EC r k (ds.map .d):=by
 unfold EC
 rw[F9]
 refine Ym.2 fun x a=>?_
 obtain⟨d,_,rfl⟩:=YC.1 a
 rfl
theorem uP{α:Type}(e:α→List D)(xs:List α):Em (Af e xs):=fun x a=>by
 obtain⟨d,_,rfl⟩:=YC.1 a;rfl
theorem Zwo{α:Type}{e:α→List D}{xs:List α}{off cn sz:Nat}{z:List AV}(hl:∀x,(e x).length=sz)(h:off+cn≤xs.length):
  XM (Af e xs) off cn sz z ((Af e xs).take (off*sz)++(List.replicate cn z).flatten++(Af e xs).drop ((off+cn)*sz)):=by
 refine⟨?_,rfl⟩
 rw[C2 hl]
 exact YF _ h
theorem Zwz{α:Type}{e:α→List D}{xs:List α}{off sz:Nat}{A B:List AV}(hl:∀x,(e x).length=sz)(h:off≤xs.length):∃m,((Af e xs).take (off*sz)++A++B).take m=Af e (xs.take off):=by
 refine⟨off*sz,?_⟩
 have a:((Af e xs).take (off*sz)).length=off*sz:=by
  rw[Yo,C2 hl]
  exact GN (YF _ h)
 rw[YY,TR (by omega),TY (by omega),P7 hl]
def G0(n:Nat):List (Ad×Blk)→Bool
 |[]=>true
 |(k,_)::r=>Nat.beq k.1 0&&Nat.ble (k.2+1) n&&G0 n r
theorem cj{n:Nat}:∀{hs:List (Ad×Blk)},G0 n hs=true→∀k,(AI hs k).live=true→k.1=0∧k.2<n
 |[],_,k,h=>by simp[AI,D5]at h
 |(q,b)::r,hi,k,h=>by
  simp only[G0,Bool.and_eq_true]at hi
  simp only[AI]at h
  split at h
  ·rename_i a
   have a:=BX.1 a
   subst a
   exact⟨Ya hi.1.1,Yd hi.1.2⟩
  ·exact cj hi.2 k h
theorem bd{n:Nat}:∀{hs:List (Ad×Blk)},G0 n hs=true→∀d,AI hs (1,d)=D5
 |[],_,d=>rfl
 |(q,b)::r,hi,d=>by
  simp only[G0,Bool.and_eq_true]at hi
  simp only[AI]
  split
  ·rename_i a
   have a:=BX.1 a
   subst a
   have:=Ya hi.1.1
   grind
  ·exact bd hi.2 d
def HJ(H:Hp)(r:Ren)(hs:List (Ad×Blk)):Nat→List Ad→Prop
 |_,[]=>True
 |i,k::ks=>((H k).g=r.γ (0,i)+(AI hs (0,i)).g∧((AI hs (0,i)).live=true→H k=AK r (0,i) (AI hs (0,i))))∧HJ H r hs (i+1) ks
theorem fF{H:Hp}{r:Ren}{hs:List (Ad×Blk)}:∀{ks:List Ad} {i:Nat},HJ H r hs i ks→∀j k,ks[j]?=some k→(H k).g=r.γ (0,i+j)+(AI hs (0,i+j)).g∧((AI hs (0,i+j)).live=true→H k=AK r (0,i+j) (AI hs (0,i+j)))
 |[],i,_,j,k,h=>by simp at h
 |q::ks,i,h,0,k,a=>by
  simp only[YQ,Yf]at a
  subst a
  exact h.1
 |q::ks,i,h,j+1,k,a=>by
  have:=fF h.2 j k (by simpa using a)
  grind
def Ht(l:Nat):List Ad→Prop
 |[]=>True
 |k::ks=>k.1≤l∧Ht l ks
theorem Qr{l:Nat}:∀{ks:List Ad},Ht l ks→∀k∈ks,k.1≤l
 |q::ks,h,k,a=>by
  rcases Yy.1 a with rfl|a
  ·exact h.1
  ·exact Qr h.2 k a
def GW:Nat→List Nat
 |0=>[]
 |n+1=>GW n++[n]
theorem Qc:∀{n i:Nat},i<n→i∈GW n
 |n+1,i,h=>by
  simp only[GW,GO,HN]
  rcases Ys i n with a|a
  ·exact .inl (Qc a)
  grind
theorem Zly{P:Program}{T:Nat→Option TI}{n:Nat}{f:FuncId}{fn:Func}(u:List ResultVar)(c:Code){l:Nat}{xs:List AV}{H:Hp}{a:AV→Hp→Prop}(ks:List Ad)(g:List Nat)(os:Nat)(θ:Nat→AV)(ys:List AV)(hs:List (Ad×Blk))(Y:AV)(e:List Blk){Y':AV}{bs':List Blk}
  (z:P.funcs[f]?=some fn) (hb:fn.body=some c) (d:(fn.name== "runtime.NumGoroutine")=false) (B:fn.ntmps=n) (E:fn.results.toList=u) (F:xs.length≤n) (w:A8 P T) (s:ks.length=os)
  (p:Ht l ks) (q:ks.Nodup) (j:G0 os hs=true) (v:HJ H (BP l ks g θ H) hs 0 ks) (t:An (BP l ks g θ H) ys=xs) (m:e.length=os) (o:∀b∈e,b.live=true) (x:∀r,GK l ks g r→ren r Y=Y') (hB:∀r,GK l ks g r→Cd r 0 e=bs')
  (h:∀C,CxOk C→C.outs=os→C.fx=GW os→C.l=l→C.H0=H→C.θ=θ→C.κ=Dk l ks→C.no=(fun k=>k∈ks)→LW P n C c (Ab (Dh 0 ys) hs) (FQ T u os (fun y b=>y=Y∧b=e)))
  (D:a Y' (CT H ks bs')):Zcr P f l xs H a:=by
 subst s
 exact Zol u c ks g (GW ks.length) θ ys hs Y e z hb d B E F w (Qr p) q (fun i hi=>Qc hi) (bd j) (cj j) (fun i k A=>by have:=fF v i k A;rw[Yz]at this;exact this) t m o x hB h D
theorem Zn7{α:Type}{e e':α→List D}{xs:List α}{j sz:Nat}{x:α}(b:xs[j]?=some x)(hl:∀x,(e x).length=sz)(he:∀x,e x=e' x):Dn (Af e xs) (j*sz) ((e' x).map .d):=by
 have a:j<xs.length:=by
  grind
 have:=uG (z:=x) a hl he
 grind
theorem ZCX{P:Program}{l o:Nat}{no b:Ad→Prop}{H j:Hp}{c:AV}{m:List AV}{y:AV}(h:CJ P l no H c m y)(hl:l≤o)(i:∀q:Ad,q.1≤l→¬no q→¬b q)(r:∀q:Ad,q.1≤l→¬no q→j q=H q):CJ P o b j c m y:=by
 obtain⟨f,first,a,e,h⟩:=h
 exact⟨f,first,a,e,fun t p g s=>h t p (FW hl g) fun k d n=>by rw[s k (FW d hl) (i k d n),r k d n]⟩
def ZHL:Code→Operand
 |.cond o _ _=>o
 |_=>.tmp 0
def Ep(c:Code)(k:Nat):Option Nat:=match Fu c k with|some (d,_,_)=>d|none=>none
def callF(c:Code)(k:Nat):Operand:=match Fu c k with|some (_,f,_)=>f|none=>.tmp 0
def Fx(c:Code)(k:Nat):List Operand:=match Fu c k with|some (_,_,xs)=>xs|none=>[]
theorem vV{P:Program}{n:Nat}{C:Cx}{Q:Exit→St→Prop}(m:CxOk C){os:Nat}{fx:List Nat}(p:C.outs=os)(o:C.fx=fx){c:Code}{k:Nat}{ss:List (Nat×AV)}{hs:List (Ad×Blk)}
  (f:FuncId) (first a xs:List AV) (i:Fu c k=some (Ep c k,callF c k,Fx c k)) (q:ev (AR ss) (callF c k)=.fn (.func f) first a) (l:first++(Fx c k).map (ev (AR ss))++a=xs) (ks:List Ad) (hb:List (Ad×Blk)) (e:(ks.map fun k=>(k,AI hs k))=hb)
  (x:AV) (Av:List (Ad×Blk)) (fr fl:List Ad) (g:(CS os Av&&I5 fr Av&&J6 fr fx&&Gf hs&&Ko n (Ep c k)&&ks.all (Bu os))=true) (j:Ed C Av) (d:HA (AI hs) fl)
  (b:∀r:Ren,r.θ=C.θ→r.H0=C.H0→r.κ=C.κ→r.no=C.no→Gh P C.l r f xs hb x Av fr)
  (h:LO P n C c (k+1) (Ab (FE (Ep c k) x (Do fr ss)) (Av++Cn (Av.map (·.1)) fr fl hs)) Q):LO P n C c k (Ab ss hs) Q:=
 ZFF m p o _ _ _ i f first a xs q l ks hb e x Av fr fl g j d b h
end Go.Eng
namespace Go.Eng
open Go
set_option linter.all false
end Go.Eng
namespace Go.Eng
set_option linter.all false
open Go Go.RowKit Go.Shelf
theorem ZCR{α:Type}{e:α→List D}{xs:List α}{l h:Nat}(q:Ee l h xs.length):Ee l h (xs.map e).length:=by rw[Yq];exact q
theorem ZD3{α:Type}{e:α→List D}{xs:List α}{sz:Nat}(he:∀x,(e x).length=sz):∀d,d∈xs.map e→d.length=sz:=fun d h=>by
 grind
theorem ZBj{α:Type}{e:α→List D}{xs:List α}{sz l h:Nat}(he:∀x,(e x).length=sz):NT (xs.map e) sz l h (((xs.drop l).take (h-l)).map e):=
 ⟨ZD3 he,by rw[←List.map_drop,←List.map_take]⟩
theorem Zti{i:Int}{len sz:Nat}(a:0≤i)(h:i<len):Jp i len 0 sz (i.toNat*sz):=⟨a,h,by simp⟩
theorem Zv5{α:Type}{e:α→List D}{xs:List α}{j sz a:Nat}{z y:α}{vs:List D}(b:j<xs.length)(hl:∀x,(e x).length=sz)(h:a+vs.length≤sz)(he:e y=(e (xs.getD j z)).take a++vs++(e (xs.getD j z)).drop (a+vs.length)):
  GL (Af e xs) (j*sz+a) (vs.map .d) (Af e (xs.set j y)):=by
 have d:(j+1)*sz≤xs.length*sz:=YF _ b
 rw[YG,IV]at d
 refine⟨by rw[Yq,C2 hl];omega,?_⟩
 have f:xs.getD j z=xs[j]:=by rw[Yv,Yb b];rfl
 rw[f]at he
 have hs:Af e xs=Af e (xs.take j)++((e xs[j]).map .d++Af e (xs.drop (j+1))):=by
  conv=>lhs;rw[←Ld j xs,Y7 b,JJ,Fq]
 have c:(Af e (xs.take j)).length=j*sz:=by rw[C2 hl,Yo,GN (by omega)]
 have g:((e xs[j]).map AV.d).length=sz:=by rw[Yq,hl]
 rw[hs,List.take_append,TY (by omega:(Af e (xs.take j)).length≤j*sz+a),c,show j*sz+a-j*sz=a from by omega,TR (by omega),
  List.drop_append,kO (by rw[c];omega),c,FV,show j*sz+a+(vs.map AV.d).length-j*sz=a+vs.length from by rw[Yq];omega,N3 (by omega),
  kA,if_pos b,JJ,Fq,he]
 simp only[GP,List.map_take,List.map_drop,YY]
end Go.Eng
namespace Go.Eng
set_option linter.all false
theorem bR{α:Type}{l:List α}{p:α→Bool}:((match l.findIdx? p with|some k=>(k:Int)|none=>-1)≥0)↔l.any p=true:=by
 rw[YO]
 cases h:l.findIdx? p with
 |none=>
  rw[TS]at h
  constructor
  ·intro e;exact absurd e (by decide)
  ·rintro⟨x,d,a⟩;rw[h x d]at a;cases a
 |some k=>
  obtain⟨b,c,_⟩:=Y3.1 h
  exact⟨fun _=>⟨l[k],K8 b,c⟩,fun _=>Int.natCast_nonneg k⟩
theorem Zyl{α:Type}{e e':α→List D}{xs:List α}{j sz:Nat}{y:α}(a:j<xs.length)(hl:∀x,(e x).length=sz)(he:∀x,e x=e' x):GL (Af e xs) (j*sz) ((e' y).map .d) (Af e (xs.set j y)):=by
 rw[←he];exact z2 a hl
theorem vE{α:Type}{sz:Nat}{e e':α→List D}{y:α}(C:List AV)(hl:∀x,(e x).length=sz)(he:∀x,e x=e' x):D3 sz C (.d (.list [e' y])) 1 (Af e [y]):=by
 rw[Zyh,he];exact ZxL C (by rw[←he];exact hl y)
theorem ZFm{C:List AV}{o n m sz:Nat}{es:List (List D)}(h:n=m)(k:FT C o m sz es):FT C o n sz es:=h▸k
theorem ZDD{α:Type}{e:α→List D}{xs:List α}{n m off sz:Nat}(a:n=m)(h:off≤xs.length)(hl:∀x,(e x).length=sz):n=m∧off*sz≤(Af e xs).length∧(Af e xs).drop (off*sz)=Af e (xs.drop off):=
 ⟨a,by rw[C2 hl];exact YF _ h,JL hl xs off⟩
theorem ZBI{α:Type}{e:α→List D}{z:α}{c:List AV}(a:(e z).map .d=c)(m:Nat):(List.replicate m c).flatten=Af e (List.replicate m z):=by
 subst a
 induction m with
 |zero=>rfl
 |succ m b=>rw[TQ,HO,b,TQ,Fq]
end Go.Eng
namespace Go.Eng
set_option linter.all false
open Go Go.RowKit
section
variable {P:Program} {T:Nat→Option TI} {n:Nat} {C:Cx} {τ:St} {Q:Exit→St→Prop}
theorem ZCV(f:CxOk C){os:Nat}{fx:List Nat}(k:C.outs=os)(i:C.fx=fx){c:Code}(a:AT)(lf:Lf)(q:Ren→(St→Prop)→Prop)
  (m:∀r Φ,Bf r os a τ (fun τ _=>Et fx lf τ Φ)=q r Φ) (h:∀r,r.θ=C.θ→r.H0=C.H0→r.κ=C.κ→r.no=C.no→q r (fun τ'=>LW P n C c τ' Q)):LW P n C c τ Q:=by
 subst k
 subst i
 intro γ σ l j
 have e:=h (C.r γ) rfl rfl rfl rfl
 rw[←m]at e
 obtain⟨y,w,x,g,b,d⟩:=BR (n:=n) f a e j
 obtain⟨u,z,v,o,p,s,t⟩:=FZ (n:=n) f g l b
 exact Bv.weak (p u v o s) (d.trans t)
end
theorem wt{s:ByteArray}{i:Int}(a:0≤i)(h:i<s.size):GZ s i ((s.data.toList.getD i.toNat 0).toNat:Int):=by
 have:=xz (s:=s) (i:=i.toNat) (by omega)
 rwa [Int.toNat_of_nonneg a]at this
end Go.Eng
