import Derived.Test.YtbcmdieedjamgaaGreatZd03
import Derived.Test.YtbcmdieedjamgaaGreatZd00
namespace Go.Eng
set_option linter.all false
open Go Go.RowKit
structure TI where
 agg:Bool:=false
 kin:Nat:=0
 siz:Nat:=1
 elm:Option (Nat×Nat):=none
 fld:List (Nat×Nat×Bool):=[]
 zer:Option (List AV):=none
 eqt:Option (List Nat):=none
 str:Bool:=false
 ik:Option IntKind:=none
 byt:Option Nat:=none
 mp:Option (Bool×List D):=none
def AV.flat:AV→Bool
 |.d _|.e0|.p _|.iptr _ _=>true
 |_=>false
structure TIok (P:Program) (t:TypeId) (i:TI):Prop where
 agg:DK P t=some i.agg
 kin:kin P t=i.kin
 siz:P.cellsOf t=i.siz
 elm:∀e,i.elm=some e→Go.Eng.elm P t=some e
 fld:∀(j:Nat) (x:Nat×Nat×Bool),i.fld[j]?=some x→Go.Eng.fld P t j=some (x.1,x.2.1)∧L7 P t j=some x
 zer:∀z,i.zer=some z→Go.Eng.zer P t=some z
 eqt:∀z,i.eqt=some z→NR P t=some z
 str:i.str=true→Ms P t=true
 ik:∀z,i.ik=some z→P.underlying t=some (.int z)
 byt:∀z,i.byt=some z→P.bytesOf t≤z∧P.bytesOf t≠0
 flt:∀z,i.zer=some z→z.all AV.flat=true
 mp:∀z,i.mp=some z→Mb P t=some z
def A8(P:Program)(T:Nat→Option TI):Prop:=∀t i,T t=some i→TIok P t i
inductive AT where
 |nil
 |go (r:AT)
 |av (x:AV) (r:AT)
 |cs (c:List AV) (r:AT)
 |ds (e:List D) (r:AT)
 |num (n:Int) (r:AT)
 |nat (n:Nat) (r:AT)
 |call (x:AV) (ks:List Ad) (r:AT)
 |callH (x:AV) (ks:List Ad) (hb:List (Ad×List AV)) (r:AT)
 |br (a b:AT)
 |frz (d:Nat) (js:List (Nat×List (List D))) (cs:List (Ad×Nat×List (List D))) (r:AT)
 |adc (k:Ad) (i d:Nat) (e:TypeId) (sz:Nat) (r:AT)
 |mv (d j:Nat) (r:AT)
 |ads (j d:Nat) (e:TypeId) (sz:Nat) (r:AT)
 |trim (k:Ad) (c:List AV) (r:AT)
 |reb (j d m:Nat) (c:List AV) (r:AT)
 |sep (r:AT)
 |hard (x:AV) (ks:List Ad) (hb:List (Ad×Blk)) (fr:List Ad) (r:AT)
 |ents (es:List (List D)) (r:AT)
 |all (a:AT) (f:Nat→AT)
 |fzm (d:Nat) (js:List Nat) (r:AT)
 |fzb (d:Nat) (js:List Nat) (r:AT)
 |rnm (d d' e i:Nat) (r:AT)
 |mvc (d q e i:Nat) (r:AT)
 |one (v:Bool) (r:AT)
structure Ren where
 κ:Ad→Ad
 γ:Ad→Nat
 θ:Nat→AV
 H0:Hp
 no:Ad→Prop
mutual
def ren(r:Ren):AV→AV
 |.ref k g off n=>.ref (r.κ k) (r.γ k+g) off n
 |.ptr k g off=>.ptr (r.κ k) (r.γ k+g) off
 |.mp k g=>.mp (r.κ k) (r.γ k+g)
 |.fn f xs ys=>match f with
  |.yield i=>r.θ i
  |f=>.fn f (Ao r xs) (Ao r ys)
 |.agg xs=>.agg (Ao r xs)
 |.tup xs=>.tup (Ao r xs)
 |.top=>.top
 |.d x=>.d x
 |.e0=>.e0
 |.p x=>.p x
 |.iptr cs off=>.iptr cs off
 |.ifc t ds a=>.ifc t ds a
def Ao(r:Ren):List AV→List AV
 |[]=>[]
 |x::xs=>ren r x::Ao r xs
end
def AL(r:Ren)(k:Ad)(b:Blk):Blk:=⟨r.γ k+b.g,true,b.e,b.sz,Ao r b.cells⟩
theorem FT{r:Ren}(xs:List AV):Ao r xs=xs.map (ren r):=by
 induction xs with
 |nil=>simp[Ao]
 |cons x xs a=>simp[Ao,a]
theorem CE{r:Ren}(xs:List AV):(Ao r xs).length=xs.length:=by rw[FT,YG]
theorem He{r:Ren}(xs ys:List AV):Ao r (xs++ys)=Ao r xs++Ao r ys:=by simp[FT]
theorem Fe{r:Ren}(xs:List AV)(n:Nat):(Ao r xs).drop n=Ao r (xs.drop n):=by simp[FT]
theorem FS{r:Ren}(xs:List AV)(n:Nat):(Ao r xs).take n=Ao r (xs.take n):=by simp[FT]
theorem H5{r:Ren}(xs:List AV)(n:Nat):(Ao r xs)[n]?=(xs[n]?).map (ren r):=by simp[FT]
theorem H7{r:Ren}(xs:List D):Ao r (xs.map .d)=xs.map .d:=by
 induction xs with
 |nil=>simp[Ao]
 |cons x xs a=>simp only[YT,Ao,ren,a]
theorem ZyF{r:Ren}{xs:List AV}(h:xs≠[]):Ao r xs≠[]:=by cases xs<;>simp_all[Ao]
def DB(r:Ren)(H a:Hp):Prop:=∀k,(H k).live=true→a (r.κ k)=AL r k (H k)
def Bk{α:Type}:List α→Nat→Option α
 |[],_=>none
 |x::_,0=>some x
 |_::xs,i+1=>Bk xs i
theorem Cm{α:Type}:∀(xs:List α) (i:Nat),Bk xs i=xs[i]?
 |[],i=>by simp[Bk]
 |x::xs,0=>by simp[Bk]
 |x::xs,i+1=>by simp[Bk,Cm xs i]
def J5{α:Type}:Nat→List α→Option (List α)
 |0,_=>some []
 |n+1,x::xs=>match J5 n xs with|some r=>some (x::r)|none=>none
 |_+1,[]=>none
theorem ga{α:Type}:∀(n:Nat) (xs r:List α),J5 n xs=some r→xs.take n=r∧n≤xs.length
 |0,xs,r,h=>by simp only[J5,Yk]at h;subst h;simp
 |n+1,[],r,h=>by simp[J5]at h
 |n+1,x::xs,r,h=>by
  simp only[J5]at h
  split at h
  ·rename_i q a
   cases h
   obtain⟨b,c⟩:=ga n xs q a
   grind
  ·cases h
def BU(H:Hp)(k:Ad)(g:Nat):Bool:=Nat.beq g (H k).g&&(H k).live
theorem EC{H:Hp}{k:Ad}{g:Nat}(h:BU H k g=true):g=(H k).g∧(H k).live=true:=by
 simp only[BU,Yd]at h
 exact⟨Ye h.1,h.2⟩
theorem DB.at{r:Ren}{H a:Hp}(h:DB r H a){k:Ad}{g:Nat}(hl:BU H k g=true):r.γ k+g=(a (r.κ k)).g∧(a (r.κ k)).live=true∧(a (r.κ k)).e=(H k).e∧(a (r.κ k)).sz=(H k).sz∧(a (r.κ k)).cells=Ao r (H k).cells:=by
 obtain⟨b,c⟩:=EC hl
 rw[h k c]
 subst b
 exact⟨rfl,rfl,rfl,rfl,rfl⟩
def Bh(g:Option Bool)(S:Prop):Prop:=
 match g with
 |none=>S
 |some b=>b=true→S
theorem Bu{g:Option Bool}{S:Prop}(a:∀b,g=some b→b=true)(h:Bh g S):S:=by
 unfold Bh at h
 grind
def DT(cs:List AV)(off:Nat)(c:List AV):Prop:=(cs.drop off).take c.length=c
def Jo(a:List (List D))(n:Int)(e:List D):Prop:=0≤n∧a[n.toNat]?=some e
def Mh(n:Int)(len off sz o:Nat):Prop:=0≤n∧n<len∧(off+n.toNat)*sz=o
def Jx(s:ByteArray)(n b:Int):Prop:=0≤n∧∃x:UInt8,s.data.toList[n.toNat]?=some x∧b=x.toNat
def Cs(k:IntKind)(a r:Int):Prop:=k.wrap a=r
def BC(a b:Int):Prop:=a=b
def RU(a b:Int):Prop:=a≠b
def RS(a b:Int):Prop:=a≤b
def y0(a b:ByteArray):Prop:=a.size+b.size≤9223372036854775807
def D6(dflt:Nat)(o:Option AV)(l:Nat):Prop:=
 match o with
 |none=>l=dflt
 |some (.d (.int _ n))=>n=l
 |_=>False
def Gq(l h n:Nat):Prop:=l≤h∧h≤n
def RW(es:List (List D))(sz l h:Nat)(a:List (List D)):Prop:=(∀e,e∈es→e.length=sz)∧(es.drop l).take (h-l)=a
def Xv(off l h o n:Nat):Prop:=off+l=o∧h-l=n
def aF(t:Bool)(a b:AV):AV:=
 match a,b with
 |.d (.bool x),.d (.bool y)=>.d (.bool (cond t x y))
 |a,b=>cond t a b
theorem Zym(t:Bool)(a b:AV):aF t a b=if t then a else b:=by
 unfold aF
 grind
def Nn(i:TI)(H:Hp)(x:AV)(g:Option Bool)(a:AT)(K:AV→AT→Prop):Prop:=
 match x with
 |.iptr cs off=>match i.agg with
  |true=>match Nat.ble 1 i.siz,J5 i.siz (cs.drop off)with|true,some c=>K (.agg (c.map .d)) a|_,_=>False
  |false=>match Bk cs off with|some c=>K (.d c) a|none=>False
 |.ptr k q off=>match BU H k q with
  |true=>match a with
   |.go r=>(match i.agg with
    |true=>match Nat.ble 1 i.siz,J5 i.siz ((H k).cells.drop off)with|true,some c=>K (.agg c) r|_,_=>False
    |false=>match Bk (H k).cells off with|some c=>K c r|none=>False)
   |.cs c r=>(match i.agg with
    |true=>match Nat.ble 1 i.siz,Nat.beq c.length i.siz with|true,true=>Bh g (DT (H k).cells off c)∧K (.agg c) r|_,_=>False
    |false=>match c with|[x]=>Bh g (DT (H k).cells off [x])∧K x r|_=>False)
   |_=>False
  |false=>False
 |_=>False
def TY(i:TI)(H:Hp)(f:Nat)(x:AV)(a:AT)(K:AV→AT→Prop):Prop:=
 match Bk i.fld f with
 |some (o,n,_)=>match Nat.ble 1 n with
  |true=>(match x with
   |.iptr cs off=>K (.iptr cs (off+o)) a
   |.ptr k q off=>match BU H k q with|true=>K (.ptr k q (off+o)) a|false=>False
   |_=>False)
  |false=>False
 |none=>False
def Vu(i:TI)(f:Nat)(x:AV)(a:AT)(K:AV→AT→Prop):Prop:=
 match Bk i.fld f,x with
 |some (o,n,true),.agg cs=>(match Nat.ble 1 n with|true=>K (.agg ((cs.drop o).take n)) a|false=>False)
 |some (o,_,false),.agg cs=>(match Bk cs o with|some c=>K c a|none=>False)
 |_,_=>False
def T0(i:TI)(H:Hp)(x j:AV)(g:Option Bool)(a:AT)(K:AV→AT→Prop):Prop:=
 match i.elm,j with
 |some (_,sz),.d (.int _ n)=>(match x,a with
  |.d (.list b),.ds e r=>(match Nat.beq e.length sz,Nat.ble 1 sz with|true,true=>Bh g (Jo b n e)∧K (.iptr e 0) r|_,_=>False)
  |.ref k q off len,.nat o r=>(match BU H k q,Nat.beq (H k).sz sz,Nat.ble 1 sz with|true,true,true=>Bh g (Mh n len off sz o)∧K (.ptr k q o) r|_,_,_=>False)
  |_,_=>False)
 |_,_=>False
def U4(i:TI)(x j:AV)(g:Option Bool)(a:AT)(K:AV→AT→Prop):Prop:=
 match x,j,a with
 |.d (.str s),.d (.int _ n),.num b r=>(match Nat.beq i.kin 2 with|true=>Bh g (Jx s n b)∧K (.d (.int .u8 b)) r|false=>False)
 |_,_,_=>False
def Te(op:BinOp)(k:IntKind)(x y:Int)(g:Option Bool)(a:AT)(K:AV→AT→Prop):Prop:=
 match op with
 |.eql=>K (.d (.bool (decide (x=y)))) a
 |.neq=>K (.d (.bool (!decide (x=y)))) a
 |.lss=>K (.d (.bool (decide (x<y)))) a
 |.leq=>K (.d (.bool (decide (x≤y)))) a
 |.gtr=>K (.d (.bool (decide (y<x)))) a
 |.geq=>K (.d (.bool (decide (y≤x)))) a
 |.add=>match a with|.num n r=>Bh g (Cs k (x+y) n)∧K (.d (.int k n)) r|_=>False
 |.sub=>match a with|.num n r=>Bh g (Cs k (x-y) n)∧K (.d (.int k n)) r|_=>False
 |.mul=>match a with|.num n r=>Bh g (Cs k (x*y) n)∧K (.d (.int k n)) r|_=>False
 |.quo=>match a with|.num n r=>Bh g (RU y 0)∧Bh g (Cs k (x.tdiv y) n)∧K (.d (.int k n)) r|_=>False
 |.rem=>match a with|.num n r=>Bh g (RU y 0)∧Bh g (BC (x.tmod y) n)∧K (.d (.int k n)) r|_=>False
 |.shr=>match a with|.num n r=>Bh g (RS 0 y)∧Bh g (BC (x.fdiv (2^(min y.toNat k.bits))) n)∧K (.d (.int k n)) r|_=>False
 |.shl=>match a with|.num n r=>Bh g (RS 0 y)∧Bh g (Cs k (x*2^(min y.toNat k.bits)) n)∧K (.d (.int k n)) r|_=>False
 |.and=>match a with|.num n r=>Bh g (BC (C9 k x y) n)∧K (.d (.int k n)) r|_=>False
 |.or=>match a with|.num n r=>Bh g (BC (G0 k x y) n)∧K (.d (.int k n)) r|_=>False
 |.xor=>match a with|.num n r=>Bh g (BC (MC k x y) n)∧K (.d (.int k n)) r|_=>False
 |_=>False
def SV(op:BinOp)(x y:ByteArray)(g:Option Bool)(a:AT)(K:AV→AT→Prop):Prop:=
 match op with
 |.add=>Bh g (y0 x y)∧K (.d (.str (x++y))) a
 |.eql=>K (.d (.bool (decide (x=y)))) a
 |.neq=>K (.d (.bool (!decide (x=y)))) a
 |.lss=>K (.d (.bool (BB x y))) a
 |.leq=>K (.d (.bool (BB x y||decide (x=y)))) a
 |.gtr=>K (.d (.bool (!(BB x y||decide (x=y))))) a
 |.geq=>K (.d (.bool (!BB x y))) a
 |_=>False
def Mw(H:Hp)(neg:Bool)(x:AV)(a:AT)(K:AV→AT→Prop):Prop:=
 match x with
 |.e0=>∀b,K (.d (.bool b)) a
 |.d (.list c)=>∀b,(c≠[]→b=neg)→K (.d (.bool b)) a
 |.ref k q _ n=>(match BU H k q with|true=>∀b,(n≠0→b=neg)→K (.d (.bool b)) a|false=>False)
 |_=>False
def ikB:IntKind→IntKind→Bool
 |.i8,.i8|.i16,.i16|.i32,.i32|.i64,.i64|.u8,.u8|.u16,.u16|.u32,.u32|.u64,.u64=>true
 |_,_=>false
theorem ZNZ{a b:IntKind}(h:ikB a b=true):a=b:=by cases a<;>cases b<;>first|rfl|cases h
def Sx(i:TI)(H:Hp)(op:BinOp)(c:Bool)(x y:AV)(g:Option Bool)(a:AT)(K:AV→AT→Prop):Prop:=
 match x,y with
 |.d (.int k m),.d (.int k' n)=>(match ikB k k' with|true=>Te op k m n g a K|false=>False)
 |.d (.str m),.d (.str n)=>SV op m n g a K
 |.d (.bool m),.d (.bool n)=>(match Nat.beq i.kin 1 with
  |true=>(match op with
   |.eql=>K (.d (.bool (m==n))) a
   |.neq=>K (.d (.bool (!(m==n)))) a
   |_=>False)
  |false=>False)
 |.agg xs,.agg ys=>(match i.eqt with
  |some ks=>(match EH ks xs ys with
   |some b=>(match op with
    |.eql=>K (.d (.bool b)) a
    |.neq=>K (.d (.bool (!b))) a
    |_=>False)
   |none=>False)
  |none=>False)
 |x,.e0=>(match c,Nat.beq i.kin 4 with
  |true,true=>(match op with
   |.eql=>Mw H false x a K
   |.neq=>Mw H true x a K
   |_=>False)
  |_,_=>False)
 |_,_=>False
def Xh(op:UnOp)(x:AV)(g:Option Bool)(a:AT)(K:AV→AT→Prop):Prop:=
 match op,x with
 |.not,.d (.bool b)=>K (.d (.bool (!b))) a
 |.neg,.d (.int k n)=>(match a with|.num m r=>Bh g (Cs k (0-n) m)∧K (.d (.int k m)) r|_=>False)
 |.xor,.d (.int k n)=>(match a with|.num m r=>Bh g (BC (Jz k n) m)∧K (.d (.int k m)) r|_=>False)
 |_,_=>False
def WN(s d:TI)(x:AV)(g:Option Bool)(a:AT)(K:AV→AT→Prop):Prop:=
 match x with
 |.d (.int _ n)=>(match s.ik,d.ik,a with|some _,some k,.num m r=>Bh g (Cs k n m)∧K (.d (.int k m)) r|_,_,_=>False)
 |.d (.str s')=>(match Nat.beq s.kin 2,Nat.beq d.kin 2 with|true,true=>K (.d (.str s')) a|_,_=>False)
 |_=>False
def VG(i:TI)(H:Hp)(x:AV)(lo hi:Option AV)(e:Bool)(g:Option Bool)(a:AT)(K:AV→AT→Prop):Prop:=
 match e,a with
 |false,.nat l (.nat h r)=>(match x with
  |.d (.str s)=>(match Nat.beq i.kin 2 with|true=>Bh g (D6 0 lo l)∧Bh g (D6 s.size hi h)∧Bh g (Gq l h s.size)∧K (.d (.str (s.extract l h))) r|false=>False)
  |.d (.list es)=>(match i.elm,r with
   |some (_,sz),.av (.d (.list b)) r=>(match Nat.ble 1 sz with
    |true=>Bh g (D6 0 lo l)∧Bh g (D6 es.length hi h)∧Bh g (Gq l h es.length)∧Bh g (RW es sz l h b)∧K (.d (.list b)) r
    |false=>False)
   |_,_=>False)
  |.ref k q off n=>(match i.elm,r,BU H k q with
   |some (_,sz),.nat d (.nat c r),true=>(match Nat.ble 1 sz,Nat.beq (H k).sz sz with
    |true,true=>Bh g (D6 0 lo l)∧Bh g (D6 n hi h)∧Bh g (Gq l h n)∧Bh g (Xv off l h d c)∧K (.ref k q d c) r
    |_,_=>False)
   |_,_,_=>False)
  |_=>False)
 |_,_=>False
def SB(i:TI)(H:Hp)(x:AV)(g:Option Bool)(a:AT)(K:AV→AT→Prop):Prop:=
 match x,a with
 |.d (.str s),.num n r=>(match Nat.beq i.kin 2 with|true=>Bh g (BC s.size n)∧K (.d (.int .i64 n)) r|false=>False)
 |.d (.list es),.num n r=>(match Nat.beq i.kin 4 with|true=>Bh g (BC es.length n)∧K (.d (.int .i64 n)) r|false=>False)
 |.e0,.num n r=>(match Nat.beq i.kin 4 with|true=>Bh g (BC 0 n)∧K (.d (.int .i64 n)) r|false=>False)
 |.ref k q _ m,.num n r=>(match Nat.beq i.kin 4,BU H k q with|true,true=>Bh g (BC m n)∧K (.d (.int .i64 n)) r|_,_=>False)
 |_,_=>False
def jf(H:Hp):AV→Option (Bool×List (List D))
 |.d (.map q a)=>some (q,a)
 |.mp k g=>match BU H k g,(H k).e with
  |true,.m q a=>some (q,a)
  |_,_=>none
 |_=>none
def bqB:Bool→Bool→Bool
 |true,true=>true
 |false,false=>true
 |_,_=>false
theorem ZSA{a b:Bool}(h:bqB a b=true):a=b:=by cases a<;>cases b<;>first|rfl|cases h
def QS(a:List (List D))(s:ByteArray)(z vs:List D)(ok:Bool):Prop:=(F5 s a).isSome=ok∧(F5 s a).getD z=vs
def Wm(i:TI)(H:Hp)(x y:AV)(b:Bool)(g:Option Bool)(a:AT)(K:AV→AT→Prop):Prop:=
 match i.mp,jf H x,y,a with
 |some (q,z),some (d,c),.d (.str s),.av (.d (.bool ok)) (.ds vs r)=>(match bqB q d with
  |true=>Bh g (QS c s z vs ok)∧K (NS b q vs ok) r
  |false=>False)
 |_,_,_,_=>False
def jW(i:TI)(f:Nat):Option (Nat×Nat):=match Bk i.fld f with|some (o,n,_)=>some (o,n)|none=>none
def QA(i:TI)(cells:List AV):List (Nat×AV)→Option (List AV)
 |[]=>some cells
 |(f,v)::a=>match jW i f,CT v with
  |some (off,size),some vs=>match Nat.beq vs.length size,Nat.ble (off+vs.length) cells.length with
   |true,true=>QA i (cells.take off++vs++cells.drop (off+vs.length)) a
   |_,_=>none
  |_,_=>none
def Vb(i:TI)(parts:List (Nat×AV))(a:AT)(K:AV→AT→Prop):Prop:=
 match i.str,i.zer with
 |true,some z=>(match QA i z parts with|some cs=>K (.agg cs) a|none=>False)
 |_,_=>False
def Js:AV→Bool
 |.fn (.yield _) _ _=>false
 |_=>true
def tV(T:Nat→Option TI)(H:Hp)(op:Op)(ρ:Operand→AV)(g:Option Bool)(a:AT)(K:AV→AT→Prop):Prop:=
 match op with
 |.move x=>K (ρ x) a
 |.assign x=>K (ρ x) a
 |.pick c x y=>match ρ c with|.d (.bool t)=>K (aF t (ρ x) (ρ y)) a|_=>False
 |.load t x=>match T t with|some i=>Nn i H (ρ x) g a K|none=>False
 |.fieldAddr t x f=>match T t with|some i=>TY i H f (ρ x) a K|none=>False
 |.field t x f=>match T t with|some i=>Vu i f (ρ x) a K|none=>False
 |.indexAddr t x j=>match T t with|some i=>T0 i H (ρ x) (ρ j) g a K|none=>False
 |.index t x j=>match T t with|some i=>U4 i (ρ x) (ρ j) g a K|none=>False
 |.extract x j=>match ρ x with|.tup vs=>(match Bk vs j with|some y=>K y a|none=>False)|_=>False
 |.binOp o t x y _=>match T t with|some i=>Sx i H o (JT y) (ρ x) (ρ y) g a K|none=>False
 |.unOp o _ x=>Xh o (ρ x) g a K
 |.nilCheck x=>match ρ x with|.ptr k q off=>(match BU H k q with|true=>K (.ptr k q off) a|false=>False)|.iptr cs off=>K (.iptr cs off) a|_=>False
 |.convert s d x=>match T s,T d with|some i,some j=>WN i j (ρ x) g a K|_,_=>False
 |.makeInterface t x=>match T t with|some i=>(match i.str||i.elm.isSome,ρ x with|true,.agg xs=>(match Mi xs with|some ds=>K (.ifc t ds true) a|none=>False)|true,.d x=>K (.ifc t [x] false) a|_,_=>False)|none=>False
 |.typeAssert x _ t ok=>match T t with|some i=>(match i.str||i.elm.isSome,ρ x with|true,.ifc u ds q=>(match Nat.beq u t,upk q ds with|true,some v=>K (cond ok (.tup [v,.d (.bool true)]) v) a|_,_=>False)|_,_=>False)|none=>False
 |.makeFunc fn first b=>match fn with|.yield _=>False|fn=>K (.fn fn (first.toList.map ρ) (b.toList.map ρ)) a
 |.slice t x lo hi h=>match T t with|some i=>VG i H (ρ x) (lo.map ρ) (hi.map ρ) h.isSome g a K|none=>False
 |.lookup t x y e=>match T t with|some i=>Wm i H (ρ x) (ρ y) e g a K|none=>False
 |.build t parts=>match T t,parts.toList.all (fun p=>Js (ρ p.2))with|some i,true=>Vb i (parts.toList.map fun p=>(p.1,ρ p.2)) a K|_,_=>False
 |.call c=>match c.callee,c.args.toList,c.argTypes.toList with
  |.builtin .len,[x],[t]=>match T t with|some i=>SB i H (ρ x) g a K|none=>False
  |.builtin .min,[x,y],_=>Ex false (ρ x) (ρ y) (fun v=>K v a)
  |.builtin .max,[x,y],_=>Ex true (ρ x) (ρ y) (fun v=>K v a)
  |.builtin .max,[x,y,z],_=>Hx true (ρ x) (ρ y) (ρ z) (fun v=>K v a)
  |_,_,_=>False
 |_=>False
end Go.Eng
namespace Go.Eng
open Go
set_option linter.all false
inductive Waits (ops:Array Oper):Nat→Nat→Prop
 |one {j i:Nat} {oj:Oper} {e:Edge} (hj:ops[j]?=some oj) (he:e∈oj.after) (hb:Region.binds .any e=true) (hi:e.on=i):Waits ops j i
 |more {j m i:Nat} {oj:Oper} {e:Edge} (hj:ops[j]?=some oj) (he:e∈oj.after) (hb:Region.binds .any e=true) (hm:e.on=m) (h:Waits ops m i):Waits ops j i
def P5(L:List Oper)(i:Nat):Nat→Nat→Bool
 |0,_=>false
 |a+1,j=>match Bk L j with|some b=>b.after.toList.any fun e=>Region.binds .any e&&(Nat.beq e.on i||P5 L i a e.on)|none=>false
theorem fq{L:List Oper}{i:Nat}:∀(a j:Nat),P5 L i a j=true→Waits L.toArray j i
 |0,j,h=>by cases h
 |a+1,j,h=>by
  unfold P5 at h
  rw[Cm]at h
  split at h
  ·rename_i f d
   obtain⟨e,he,h⟩:=YW.1 h
   rw[Yd,YH]at h
   have c:L.toArray[j]?=some f:=by simpa using d
   rcases h.2 with b|b
   ·exact .one c (by simpa using he) h.1 (Ye b)
   ·exact .more c (by simpa using he) h.1 rfl (fq a _ b)
  ·cases h
def DC(ops:Array Oper)(a:Array Bool):Prop:=∀(m:Nat) (b:Oper),ops[m]?=some b→a.getD m false=true→∀e∈b.after,Region.binds .any e=true→a.getD e.on false=true
theorem DC.waits{ops:Array Oper}{a:Array Bool}(h:DC ops a){j i:Nat}(d:Waits ops j i):a.getD j false=true→a.getD i false=true:=by
 induction d with
 |one c he b hi=>intro hl;rw[←hi];exact h _ _ c hl _ he b
 |more c he b hm _ e=>intro hl;exact e (by rw[←hm];exact h _ _ c hl _ he b)
theorem ZEW{a:Array Bool}{i:Nat}(h:a.getD i true=false):a.getD i false=false:=by
 grind
theorem DC.ready{ops:Array Oper}{a:Array Bool}(h:DC ops a){j:Nat}(g:j∈Region.ready .any ops a):DC ops (a.setIfInBounds j true):=by
 obtain⟨k,l,d,b⟩:=mem_ready.1 g
 intro m i hm hl e he f
 by_cases c:j=m
 ·subst c
  rw[d]at hm
  cases hm
  exact getD_set_true (b e he f)
 ·rw[getD_set_ne false c]at hl
  exact getD_set_true (h m i hm hl e he f)
theorem DC.nowait{ops:Array Oper}{a:Array Bool}(h:DC ops a){j i:Nat}(k:j∈Region.ready .any ops a)(hi:a.getD i true=false):¬Waits ops j i:=fun l=>by
 obtain⟨m,n,d,c⟩:=mem_ready.1 k
 have hi:=ZEW hi
 cases l with
 |one b he f g=>
  grind
 |more b he f hm e=>
  rw[d]at b
  cases b
  have:=h.waits e (by rw[←hm];exact c _ he f)
  grind
def BY(o:Oper):Bool:=match o.op,o.dst,o.guard with
 |.store _ _ _,none,none=>true
 |_,_,_=>false
def HJ(o:Oper):Bool:=match o.op with
 |.move _=>true
 |.binOp b _ _ _ _=>(match b with|.add=>true|.sub=>true|_=>false)
 |.indexAddr _ _ _=>true
 |.fieldAddr _ _ _=>true
 |.nilCheck _=>true
 |_=>false
def bZ(H H':Hp):Prop:=∀k,(H' k).g=(H k).g∧(H' k).live=(H k).live∧(H' k).sz=(H k).sz
def OC(L:List Oper)(p:Oper)(k:Nat):Bool:=B8 p k||p.after.toList.any fun e=>Region.binds .any e&&(match L[e.on]? with|some a=>B8 a k|none=>false)
def S0(L:List Oper)(o:Oper)(k:Nat):Nat→List Oper→Bool
 |_,[]=>true
 |j,p::r=>(match BY o with|true=>B8 p k|false=>true)&&(match BY p with|true=>HJ o||OC L p k|false=>true)&&!B8 o j&&S0 L o k (j+1) r
def LM(L:List Oper):Nat→List Oper→Bool
 |_,[]=>true
 |k,o::r=>S0 L o k (k+1) r&&LM L (k+1) r
theorem ZsL{L:List Oper}{o:Oper}{k:Nat}:∀{l:List Oper} {j i:Nat} {p:Oper},S0 L o k j l=true→l[i]?=some p→(BY o=true→B8 p k=true)∧(BY p=true→HJ o=true∨OC L p k=true)∧B8 o (j+i)=false
 |[],j,i,p,_,h=>by simp at h
 |q::r,j,i,p,a,h=>by
  simp only[S0,Yd,YL]at a
  cases i with
  |zero=>
   grind
  |succ i=>
   have:=ZsL a.2 (i:=i) (by simpa using h)
   grind
theorem iD{L:List Oper}:∀{l:List Oper} {k i j:Nat} {o p:Oper},LM L k l=true→i<j→l[i]?=some o→l[j]?=some p→(BY o=true→B8 p (k+i)=true)∧(BY p=true→HJ o=true∨OC L p (k+i)=true)∧B8 o (k+j)=false
 |[],k,i,j,o,p,_,_,h,_=>by simp at h
 |q::r,k,i,j,o,p,b,c,h,a=>by
  simp only[LM,Yd]at b
  cases j with
  |zero=>omega
  |succ j=>
   have a:r[j]?=some p:=by simpa using a
   cases i with
   |zero=>
    simp only[Gu,Yk]at h
    subst h
    have:=ZsL b.1 a
    grind
   |succ i=>
    have:=iD b.2 (Nat.lt_of_succ_lt_succ c) (by simpa using h) a
    grind
theorem fV{p:Oper}{k:Nat}(h:B8 p k=true)(b:∀e∈p.after,Region.binds .any e=true→e.on≠k):False:=by
 unfold B8 at h
 rw[YW]at h
 obtain⟨e,he,a⟩:=h
 simp only[Yd]at a
 exact b e (by simpa using he) a.1 (Ye a.2)
section
variable {P:Program} {l n:Nat} {B:Base} {H H':Hp} {ops:Array Oper} {ρ:Operand→AV}
theorem rM{o:Oper}{v:AV}(h:HJ o=true)(hs:bZ H H')(a:qV P l H o ρ v):qV P l H' o ρ v:=by
 obtain⟨e,op,type,pos,after,guard⟩:=o
 cases op<;>simp only[HJ]at h<;>first|(cases h;done)|skip
 case move=>exact a
 case nilCheck=>
  simp only[qV,A1]at a⊢
  unfold Jp at a⊢
  split at a
  ·rename_i k g off _
   obtain⟨b,c,d⟩:=hs k
   grind
  ·exact a
  ·grind
 case fieldAddr=>
  simp only[qV,A1]at a⊢
  unfold Ff at a⊢
  split at a
  ·exact a
  ·rename_i k g off o n _ _
   obtain⟨b,c,d⟩:=hs k
   grind
  ·grind
 case indexAddr=>
  simp only[qV,A1]at a⊢
  unfold EB at a⊢
  split at a
  ·exact a
  ·rename_i k g off len _ n _ sz _ _ _
   obtain⟨b,c,d⟩:=hs k
   grind
  ·grind
 case binOp=>
  simp only[qV,A1]at a⊢
  unfold CI at a⊢
  split at a
  ·exact a
  ·exact a
  ·grind
  ·exact a
  ·grind
  ·grind
theorem ZVh{o:Oper}{s:Nat→AV}{v:AV}(h:HJ o=true)(hs:bZ H H')(a:YA P l H ops o s v):YA P l H' ops o s v:=by
 unfold YA at a⊢
 split at a
 ·exact rM h hs a
 ·split at a
  ·exact⟨fun e=>rM h hs (a.1 e),a.2⟩
  grind
def G5(P:Program)(l:Nat)(o:Oper)(s:Nat→AV)(H H':Hp):Prop:=match o.op with
 |.store t a x=>match ev s a,CT (ev s x)with
  |.ptr k g off,some vs=>g=(H k).g∧(H k).live=true∧vs.length=P.cellsOf t∧vs≠[]∧off+vs.length≤(H k).cells.length∧(k.1=l+1∨vs.all (AV.low k.1)=true)∧
    H'=updH H k {H k with cells:=(H k).cells.take off++vs++(H k).cells.drop (off+vs.length) }
  |_,_=>False
 |_=>False
theorem ZFv{o:Oper}{s:Nat→AV}(h:G5 P l o s H H'):bZ H H':=by
 unfold G5 at h
 split at h
 ·split at h
  ·obtain⟨_,_,_,_,_,_,rfl⟩:=h
   intro k
   unfold updH
   grind
  grind
 grind
theorem ZMy{o:Oper}{s:Nat→AV}{K:St→Prop}(hs:BY o=true)(h:Bw P l n o K ⟨s,H⟩):∃H',G5 P l o s H H'∧K ⟨s,H'⟩:=by
 obtain⟨a,op,type,pos,after,guard⟩:=o
 cases op<;>simp only[BY]at hs<;>first|(cases hs;done)|skip
 cases a with
 |some d=>cases hs
 |none=>
  simp only[Bw]at h
  simp only[G5]
  grind
theorem ZLP{o:Oper}{s:Nat→AV}{K:St→Prop}(hs:BY o=true)(h:G5 P l o s H H')(b:K ⟨s,H'⟩):Bw P l n o K ⟨s,H⟩:=by
 obtain⟨a,op,type,pos,after,guard⟩:=o
 cases op<;>simp only[BY]at hs<;>first|(cases hs;done)|skip
 cases a with
 |some d=>cases hs
 |none=>
  simp only[G5]at h
  simp only[Bw]
  grind
theorem ZIF{o:Oper}{s:Nat→AV}{d:Nat}{u:AV}(g:d∉o.looksAt ops)(h:G5 P l o (upd s d u) H H'):G5 P l o s H H':=by
 have b:∀x∈o.op.operands,ev (upd s d u) x=ev s x:=fun x hx=>by
  cases x with
  |tmp t=>
   have c:t≠d:=fun e=>g (by
    subst e
    exact HO _ (Xx.2 ⟨.tmp t,by simpa using hx,rfl⟩))
   simp[ev,upd,c]
  |_=>rfl
 unfold G5 at h⊢
 split at h
 ·rename_i t a x f
  rw[b a (by rw[f];simp[Op.operands]),b x (by rw[f];simp[Op.operands])]at h
  exact h
 grind
variable {fin:Bool} {X:St→Prop}
def FA(P:Program)(l n:Nat)(ops:Array Oper)(fin:Bool)(X:St→Prop)(i:Nat)(K:St→Prop)(σ:St):Prop:=
 match ops[i]? with
 |none=>K σ
 |some o=>(CU o=true∧∃d v,o.dst=some d∧d<n∧YA P l σ.H ops o σ.s v∧K ⟨upd σ.s d v,σ.H⟩)∨(BY o=true∧∃H',G5 P l o σ.s σ.H H'∧K ⟨σ.s,H'⟩)∨(fin=true∧i+1=ops.size∧X σ)
def KH(P:Program)(l n:Nat)(ops:Array Oper)(fin:Bool)(X:St→Prop)(Q:St→Prop):Nat→Array Bool→St→Prop
 |0,a,σ=>Region.ready .any ops a=[]∧Q σ
 |fuel+1,a,σ=>(Region.ready .any ops a=[]→Q σ)∧∀i∈Region.ready .any ops a,FA P l n ops fin X i (KH P l n ops fin X Q fuel (a.setIfInBounds i true)) σ
theorem Zzn{i:Nat}{K g:St→Prop}{σ:St}(h:∀s,K s→g s)(b:FA P l n ops fin X i K σ):FA P l n ops fin X i g σ:=by
 unfold FA at*
 split
 ·rename_i e;rw[e]at b;exact h _ b
 ·rename_i o e
  rw[e]at b
  rcases b with⟨a,d,v,c,f,j,k⟩|⟨a,H',c,f⟩|a
  ·exact .inl ⟨a,d,v,c,f,j,h _ k⟩
  ·exact .inr (.inl ⟨a,H',c,h _ f⟩)
  ·exact .inr (.inr a)
theorem ZIl{i j:Nat}{c t:Oper}{d:Nat}{v:AV}(A:ops[j]?=some t)(a:c.dst=some d)(m:c.apart ops t=true)(p:BY t=true→HJ c=true)(r:fin=true→j+1≠ops.size){K:St→Prop}{s:Nat→AV}
  (hy:YA P l H ops c s v) (h:FA P l n ops fin X j K ⟨upd s d v,H⟩):FA P l n ops fin X j (fun g=>YA P l g.H ops c g.s v∧K ⟨upd g.s d v,g.H⟩) ⟨s,H⟩:=by
 obtain⟨w,x,y⟩:=Oper.apart_spec m
 unfold FA at*
 simp only[A]at*
 rcases h with⟨b,e,u,he,o,f,k⟩|⟨b,H',f,k⟩|⟨b,z,_⟩
 ·refine .inl ⟨b,e,u,he,o,mL (w d a) f,ZG5 (y e he) hy,?_⟩
  have q:d≠e:=fun e'=>x d a (e'▸he)
  rw[ZxQ (Ne.symm q)]
  exact k
 ·exact .inr (.inl ⟨b,H',ZIF (w d a) f,ZVh (p b) (ZFv f) hy,k⟩)
 ·exact absurd z (r b)
theorem Zqf{Q:St→Prop}{i:Nat}{p:Oper}{d:Nat}{v:AV}(hi:ops[i]?=some p)(hq:CU p=true)(E:p.dst=some d)(M:d<n):
  ∀(fuel:Nat) (a:Array Bool) (s:Nat→AV) (H:Hp),
   (∀j w,ops[j]?=some w→j≠i→a.getD j true=false→(∀e∈w.after,Region.binds .any e=true→e.on≠i∧∀b,ops[e.on]?=some b→B8 b i=false)→¬Waits ops j i→p.apart ops w=true∧(BY w=true→HJ p=true)∧(fin=true→j+1≠ops.size))→DC ops a→
   (∀m b,ops[m]?=some b→B8 b i=true→a.getD m true=false)→i∈Region.ready .any ops a→YA P l H ops p s v→
   KH P l n ops fin X Q fuel (a.setIfInBounds i true) ⟨upd s d v,H⟩→KH P l n ops fin X Q (fuel+1) a ⟨s,H⟩:=by
 have x:∀{K:St→Prop} {s:Nat→AV} {H:Hp},YA P l H ops p s v→K ⟨upd s d v,H⟩→FA P l n ops fin X i K ⟨s,H⟩:=fun hy hK=>by
  unfold FA;simp only[hi];exact .inl ⟨hq,d,v,E,M,hy,hK⟩
 intro fuel
 induction fuel with
 |zero=>
  intro a s H _ _ U u hy C
  refine⟨fun h=>(by rw[h]at u;cases u),fun j B=>?_⟩
  by_cases c:j=i
  ·subst c;exact x hy C
  ·have:=ready_mono B c
   rw[C.1]at this
   cases this
 |succ fuel ih=>
  intro a s H g Y U u hy C
  refine⟨fun h=>(by rw[h]at u;cases u),fun j B=>?_⟩
  by_cases c:j=i
  ·subst c;exact x hy C
  ·have f:=C.2 j (ready_mono B c)
   obtain⟨r,w,A,q⟩:=mem_ready.1 B
   have t:∀e∈w.after,Region.binds .any e=true→e.on≠i:=fun e he J heq=>by
    have f:=q e he J
    have D:=(mem_ready.1 u).1
    rw[heq]at f
    rcases YF i a.size with y|y
    ·simp[y]at D f;rw[D]at f;cases f
    ·simp[Gv y]at f
   have z:∀e∈w.after,Region.binds .any e=true→e.on≠i∧∀b,ops[e.on]?=some b→B8 b i=false:=fun e he J=>⟨t e he J,fun b T=>by
    cases L:B8 b i with
    |false=>rfl
    |true=>
     have f:=q e he J
     have D:=U _ b T L
     rcases YF e.on a.size with y|y
     ·simp[y]at D f;rw[D]at f;cases f
     ·simp[Gv y]at f⟩
   have N:=g j w A c r z (Y.nowait B (mem_ready.1 u).1)
   have h2:=ZIl (i:=i) A E N.1 N.2.1 N.2.2 hy f
   have o:∀k ok,ops[k]?=some ok→k≠i→(a.setIfInBounds j true).getD k true=false→
     (∀e∈ok.after,Region.binds .any e=true→e.on≠i∧∀b,ops[e.on]?=some b→B8 b i=false)→¬Waits ops k i→p.apart ops ok=true∧(BY ok=true→HJ p=true)∧(fin=true→k+1≠ops.size):=fun k ok hk O I R S=>by
    refine g k ok hk O ?_ R S
    by_cases F:j=k
    ·subst F;exact r
    ·rw[getD_set_ne true F]at I;exact I
   have V:∀m b,ops[m]?=some b→B8 b i=true→(a.setIfInBounds j true).getD m true=false:=fun m b hm L=>by
    by_cases G:j=m
    ·subst G
     rw[A]at hm
     cases hm
     exact(fV L t).elim
    ·rw[getD_set_ne true G];exact U m b hm L
   refine Zzn (fun Z W=>ih (a.setIfInBounds j true) Z.s Z.H o (Y.ready B) V (ready_mono u (Ne.symm c)) W.1 ?_) h2
   rw[kX _ _ c]
   exact W.2
theorem fX{K K0:St→Prop}{m:Nat}(q:∀k (a:Array Bool) (s:Nat→AV) (H:Hp),k+m=ops.size→(∀j,a.getD j true=false→k≤j)→Region.lexFrom .any ops m k a=true→K0 ⟨s,H⟩→KH P l n ops fin X K m a ⟨s,H⟩)(x:fin=true→∀i,i+1<ops.size→Waits ops (ops.size-1) i)(A:∀i j O w,i<j→ops[i]?=some O→ops[j]?=some w→(BY O=true→B8 w i=true)∧(BY w=true→HJ O=true∨OC ops.toList w i=true)∧B8 O j=false):
  ∀(rest:List Oper) (k:Nat) (a:Array Bool) (s:Nat→AV) (H:Hp),rest.all (fun o=>CU o||BY o)=true→(∀j,a.getD j true=false→k≤j)→(∀j,k≤j→j<ops.size→a.getD j true=false)→
  k+rest.length+m=ops.size→DC ops a→(∀j,j<rest.length→rest[j]?=ops[k+j]?)→Region.lexFrom .any ops (rest.length+m) k a=true→D0 P l n (ops.toList.map (·.dst)) rest K0 ⟨s,H⟩→KH P l n ops fin X K (rest.length+m) a ⟨s,H⟩
 |[],k,a,s,H,_,G,_,u,_,_,D,h=>by
  simp only[G6,YP,G8]at D u⊢
  exact q k a s H u G D h
 |o::rest,k,a,s,H,hq,G,hk2,u,hD,hl,D,h=>by
  have N:ops[k]?=some o:=by simpa using(hl 0 (by simp)).symm
  rw[E1,Nat.add_right_comm]at D⊢
  simp only[Region.lexFrom,Yd]at D
  obtain⟨⟨E,hf⟩,R⟩:=D
  have E:k∈Region.ready .any ops a:=by simpa using E
  simp only[I7,Yd,YH]at hq
  have V:∀j,(a.setIfInBounds k true).getD j true=false→k+1≤j:=fun j F=>by
   by_cases p:k=j
   ·subst p
    exfalso
    rcases YF k a.size with M|M
    ·simp[M]at F
    grind
   ·rw[getD_set_ne true p]at F
    grind
  have I:∀j,k+1≤j→j<ops.size→(a.setIfInBounds k true).getD j true=false:=fun j h1 h2=>by
   rw[getD_set_ne true (by omega)]
   grind
  have hu:∀m om,ops[m]?=some om→B8 om k=true→a.getD m true=false:=fun m om hm ho=>by
   grind
  have Y:∀j,j<rest.length→rest[j]?=ops[k+1+j]?:=fun j F=>by have:=hl (j+1) (by simp;omega);simpa[YI,Oi 1 j]using this
  have next:∀s' H',D0 P l n (ops.toList.map (·.dst)) rest K0 ⟨s',H'⟩→KH P l n ops fin X K (rest.length+m) (a.setIfInBounds k true) ⟨s',H'⟩:=fun s' H' M=>
   fX q x A rest (k+1) _ s' H' (by simpa using hq.2) V I (by simp only[E1]at u;omega) (hD.ready E) Y R M
  by_cases f:BY o=true
  ·
   have z:o.guard=none:=by
    cases z:o.guard with
    |none=>rfl
    |some _=>obtain⟨Q,op,type,pos,after,guard⟩:=o;simp only at z;subst z;cases op<;>cases Q<;>simp[BY]at f
   have L:Bw P l n o (D0 P l n (ops.toList.map (·.dst)) rest K0) ⟨s,H⟩:=by
    unfold D0 at h
    simp only[z]at h
    unfold Gj at h
    split at h
    ·rename_i S;simp[BY,S]at f
    ·rename_i c S;simp[BY,S]at f
    ·exact h
   obtain⟨H',hS,hK⟩:=ZMy f L
   refine⟨fun h=>(by rw[h]at E;cases E),fun j F=>?_⟩
   by_cases p:j=k
   ·subst p
    unfold FA
    grind
   ·exfalso
    obtain⟨g,w,r,hall⟩:=mem_ready.1 F
    have W:=G j g
    have he:=(A k j o w (by omega) N r).1 f
    refine fV he fun e he y heq=>?_
    grind
  ·have C:CU o=true:=by rcases hq.1 with h|h;exact h;exact absurd h f
   have hst:∃d v,o.dst=some d∧d<n∧YA P l H ops o s v∧D0 P l n (ops.toList.map (·.dst)) rest K0 ⟨upd s d v,H⟩:=by
    unfold D0 at h
    unfold YA
    cases z:o.guard with
    |none=>simp only[z]at h;exact ZoJ C h
    |some gw=>
     obtain⟨i,b⟩:=gw
     simp only[z]at h⊢
     split at h
     ·rename_i t ht
      cases t with
      |true=>
       obtain⟨d,v,h1,h2,h3,h4⟩:=ZoJ C (h.1 rfl)
       grind
      |false=>
       grind
     grind
   obtain⟨d,v,hd,T,hy,hK⟩:=hst
   refine Zqf N C hd T (rest.length+m) a s H (fun j w r p g J Z=>⟨Region.free_spec N hf j w r p g (fun e he y=>(J e he y).1),fun hsj=>?_,fun U B=>Z (by have:=x U k (by have:=G j g;omega);rwa [←B,Nat.add_sub_cancel]at this)⟩) hD hu E hy (next _ _ hK)
   have W:=G j g
   rcases(A k j o w (by omega) N r).2.1 hsj with h|h
   ·exact h
   ·exfalso
    unfold OC at h
    rw[YH]at h
    rcases h with h|h
    ·exact fV h fun e he y=>(J e he y).1
    ·obtain⟨e,he,y⟩:=YW.1 h
     rw[Yd]at y
     obtain⟨ET,Aw⟩:=y
     split at Aw
     ·grind
     grind
theorem Zm0{i:Nat}{σ:St}{a:Act}{w:World}{K:St→Prop}{q:Act→World→Prop}{f:Exit→Act→World→Prop}(r:R l n B σ a w)
  (h:∀σ a w,R l n B σ a w→K σ→q a w) (L:fin=true→i+1=ops.size→X σ→wpOp P ops f i q a w) (A:FA P l n ops fin X i K σ):wpOp P ops f i q a w:=by
 have z:=L
 obtain⟨s,H⟩:=σ
 unfold FA at A
 unfold wpOp
 split
 ·grind
 ·rename_i o G
  simp only[G]at A
  rcases A with⟨C,d,v,F,g,hy,E⟩|⟨k,H',y,E⟩|⟨T,U,V⟩
  rotate_left 2
  ·have:=z T U V
   unfold wpOp at this
   simpa only[G]using this
  ·have go:qV P l H o (ev s) v→o.wp P a w q f:=fun Q=>by
    have:=ZPE (B:=B) C F g Q a w r f
    refine Oper.wp_mono (fun I w' ⟨D,e,x⟩=>?_) this
    grind
   unfold YA at hy
   cases c:o.guard with
   |none=>
    simp only[c]at hy
    rw[Yj (by simp[Region.wanted,c])]
    grind
   |some J=>
    obtain⟨j,b⟩:=J
    simp only[c]at hy
    split at hy
    ·rename_i t O
     have p:(yielded ops a.tmps j==some b)=t:=by
      obtain⟨m,S,W,Y,M,y,N⟩:=r.un
      exact Zk3 y O
     cases t with
     |true=>
      rw[Yj (by simp only[Region.wanted,c];exact p)]
      grind
     |false=>
      rw[Ym (by simp only[Region.wanted,c,p];decide)]
      have:=hy.2 rfl
      subst this
      rw[F]
      exact h _ _ _ (R.undef r g) E
    grind
  ·have c:o.guard=none:=by
    cases c:o.guard with
    |none=>rfl
    |some _=>obtain⟨u,op,type,pos,after,guard⟩:=o;simp only at c;subst c;cases op<;>cases u<;>simp[BY]at k
   rw[Yj (by simp[Region.wanted,c])]
   refine .inl ?_
   have:=MW (B:=B) (ZLP (n:=n) (K:=fun D=>D=⟨s,H'⟩) k y rfl) a w r f
   refine Oper.wp_mono (fun I w' ⟨D,e,x⟩=>?_) this
   grind
theorem Zju{c:Exit→Act→World→Prop}{b:Array Bool}(h:Region.ready .any ops b=[]){a:Act}{w:World}(d:c .normal a w):∀fuel,wpAny P .any ops c fuel b a w
 |0=>⟨h,d⟩
 |_+1=>⟨fun _=>d,fun i hi=>by rw[h]at hi;cases hi⟩
theorem eP{Q:St→Prop}{p:Exit→Act→World→Prop}(r:∀σ a w,R l n B σ a w→Q σ→p .normal a w)(c:fin=true→∀i,i+1<ops.size→Waits ops (ops.size-1) i)(z:fin=true→∀σ a w,R l n B σ a w→X σ→∀o,ops[ops.size-1]?=some o→wpList P ops p [o] a w):
  ∀(fuel:Nat) (b:Array Bool) (σ:St) (a:Act) (w:World),DC ops b→R l n B σ a w→KH P l n ops fin X Q fuel b σ→wpAny P .any ops p fuel b a w
 |0,_,_,_,_,_,f,h=>⟨h.1,r _ _ _ f h.2⟩
 |fuel+1,b,σ,a,w,y,f,h=>⟨fun v=>r _ _ _ f (h.1 v),fun i hi=>Zm0 f (fun s' u w' s E=>eP r c z fuel _ s' u w' (y.ready hi) s E) (fun D K I=>by
  obtain⟨v,o,C,A⟩:=mem_ready.1 hi
  have e:ops.size-1=i:=by omega
  have hw:=z D σ a w f I o (by rw[e];exact C)
  have k:Region.ready .any ops (b.setIfInBounds i true)=[]:=by
   refine List.eq_nil_iff_forall_not_mem.2 fun j F=>?_
   obtain⟨m,J,t,_⟩:=mem_ready.1 F
   have G:j<ops.size:=(G9.1 t).1
   by_cases g:i=j
   ·subst g
    rcases YF i b.size with q|q
    ·simp[q]at m
    ·simp[Gv q]at m
   ·rw[getD_set_ne true g]at m
    have x:=c D j (by omega)
    rw[e]at x
    exact y.nowait hi m x
  unfold wpOp
  simp only[C]
  unfold wpList at hw
  split
  ·rename_i d
   rw[Yj d]at hw
   exact hw.imp (Oper.wp_mono fun u w' H=>Zju k H _) id
  ·rename_i d
   rw[Ym d]at hw
   exact Zju k hw _) (h.2 i hi)⟩
theorem DC.none(n:Nat):DC ops (Array.replicate n false):=fun m b _ h=>by
 rw[Yz]at h
 rcases YF m n with a|a
 ·simp[a]at h
 ·simp[Nat.not_lt.2 a]at h
theorem ZpP{id:Nat}{ops:List Oper}{σ:St}{Q:Exit→St→Prop}(hm:P.follows .mixedOrders=true)(c:Region.lexB .any ops.toArray=true)(D:ops.all (fun o=>CU o||BY o)=true)(hs:LM ops 0 ops=true)
  (h:D0 P l n (ops.map (·.dst)) ops (Q .normal) σ):BI P l n B (.region id ops.toArray true) Q σ:=by
 intro a w y
 obtain⟨s,H⟩:=σ
 simp only[Region.lexB,Yd]at c
 have v:=fX (P:=P) (l:=l) (n:=n) (ops:=ops.toArray) (K:=Q .normal) (K0:=Q .normal) (m:=0) (fin:=false) (X:=fun _=>False) (fun k d s H _ _ c h=>⟨by simpa[Region.lexFrom]using c,h⟩) (fun e=>by cases e) (fun i j F G q hi A=>by
   have:=iD hs q (by simpa using hi) (by simpa using A)
   simpa using this) ops 0 (Array.replicate ops.toArray.size false) s H D (fun _ _=>Cj _) (fun j _ h=>by simp at h;simp[h]) (by simp) (DC.none _) (by simp) (by simpa using c.2) (by simpa using h)
 have f:R l n B ⟨s,H⟩ a {w with drawn:=w.drawn+1 }:=by
  obtain⟨m,S,x,C,g,z,p⟩:=y.un
  obtain⟨t,u⟩:=x.drew (w':={w with drawn:=w.drawn+1 }) rfl rfl rfl rfl
  exact R.keep t C g z p u
 refine wp_region_any hm (eP (Q:=Q .normal) (fin:=false) (X:=fun _=>False) (fun I E w' b r=>⟨_,r,b⟩) (fun e=>by cases e) (fun e=>by cases e) _ _ _ a _ (DC.none _) f (by simpa using v))
theorem Ztb{id:Nat}{L:List Oper}{o:Oper}{σ:St}{QQ:Exit→Act→World→Prop}{X:St→Prop}(hm:P.follows .mixedOrders=true)(d:Region.lexB .any (L++[o]).toArray=true)(M:L.all (fun o=>CU o||BY o)=true)(hs:LM (L++[o]) 0 (L++[o])=true)
  (N:∀i,i<L.length→Waits (L++[o]).toArray L.length i) (h:D0 P l n ((L++[o]).map (·.dst)) L X σ) (I:∀σ a w,R l n B σ a w→X σ→wpList P (L++[o]).toArray QQ [o] a w) {a:Act} {w:World} (p:R l n B σ a w):(Code.region id (L++[o]).toArray true).wp P QQ a w:=by
 obtain⟨s,H⟩:=σ
 simp only[Region.lexB,Yd]at d
 have c:true=true→∀i,i+1<(L++[o]).toArray.size→Waits (L++[o]).toArray ((L++[o]).toArray.size-1) i:=fun _ i hi=>by
  have:=N i (by simpa using hi)
  simpa using this
 have E:=fX (P:=P) (l:=l) (n:=n) (ops:=(L++[o]).toArray) (K:=fun _=>False) (K0:=X) (m:=1) (fin:=true) (X:=X) (fun k b s H V hl d h=>by
   simp only[Region.lexFrom,Yd]at d
   have D:k∈Region.ready .any (L++[o]).toArray b:=by simpa using d.1.1
   refine⟨fun g=>(by rw[g]at D;cases D),fun i hi=>?_⟩
   obtain⟨g,T,f,_⟩:=mem_ready.1 hi
   have z:=hl i g
   have A:i<(L++[o]).toArray.size:=(G9.1 f).1
   unfold FA
   simp only[f]
   refine .inr (.inr ?_)
   exact And.intro (by first|rfl|trivial) (And.intro (by omega) h)) c (fun i j T W u hi v=>by
   have:=iD hs u (by simpa using hi) (by simpa using v)
   simpa using this) L 0 (Array.replicate (L++[o]).toArray.size false) s H M (fun _ _=>Cj _) (fun j _ h=>by simp at h;simp[h]) (by simp) (DC.none _) (fun j v=>by simp[Ys v]) (by simpa using d.2) (by simpa using h)
 have q:R l n B ⟨s,H⟩ a {w with drawn:=w.drawn+1 }:=by
  obtain⟨m,S,F,J,r,G,t⟩:=p.un
  obtain⟨z,A⟩:=F.drew (w':={w with drawn:=w.drawn+1 }) rfl rfl rfl rfl
  exact R.keep z J r G t A
 refine wp_region_any hm (eP (Q:=fun _=>False) (fin:=true) (X:=X) (fun Y U w' C y=>y.elim) c (fun _ σ a w p hx O x=>?_) _ _ _ a _ (DC.none _) q (by simpa using E))
 have e:O=o:=by simpa using x.symm
 subst e
 exact I σ a w p hx
end
end Go.Eng
