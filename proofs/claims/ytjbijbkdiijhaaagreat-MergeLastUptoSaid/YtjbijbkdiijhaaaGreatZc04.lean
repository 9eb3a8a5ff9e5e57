import Derived.Test.YtjbijbkdiijhaaaGreatZc03
import Derived.Test.YtjbijbkdiijhaaaGreatZc00
namespace Go.Eng
set_option linter.all false
open Go Go.RowKit
structure TI where
 agg:Bool:=false
 kin:Nat:=0
 siz:Nat:=1
 elm:Option (Nat×Nat):=none
 fld:List (Nat×Nat×Bool):=[]
 zer:Option (List AV):=none
 eqt:Option (List Nat):=none
 str:Bool:=false
 ik:Option IntKind:=none
 byt:Option Nat:=none
 mp:Option (Bool×List D):=none
def AV.flat:AV→Bool
 |.d _|.e0|.p _|.iptr _ _=>true
 |_=>false
structure TIok (P:Program) (t:TypeId) (i:TI):Prop where
 agg:DE P t=some i.agg
 kin:kin P t=i.kin
 siz:P.cellsOf t=i.siz
 elm:∀e,i.elm=some e→Go.Eng.elm P t=some e
 fld:∀(j:Nat) (x:Nat×Nat×Bool),i.fld[j]?=some x→Go.Eng.fld P t j=some (x.1,x.2.1)∧Mc P t j=some x
 zer:∀z,i.zer=some z→Go.Eng.zer P t=some z
 eqt:∀z,i.eqt=some z→N0 P t=some z
 str:i.str=true→Mn P t=true
 ik:∀z,i.ik=some z→P.underlying t=some (.int z)
 byt:∀z,i.byt=some z→P.bytesOf t≤z∧P.bytesOf t≠0
 flt:∀z,i.zer=some z→z.all AV.flat=true
 mp:∀z,i.mp=some z→Mr P t=some z
def Bj(P:Program)(T:Nat→Option TI):Prop:=∀t i,T t=some i→TIok P t i
inductive AT where
 |nil
 |go (r:AT)
 |av (x:AV) (r:AT)
 |cs (c:List AV) (r:AT)
 |ds (e:List D) (r:AT)
 |num (n:Int) (r:AT)
 |nat (n:Nat) (r:AT)
 |call (x:AV) (ks:List Af) (r:AT)
 |callH (x:AV) (ks:List Af) (hb:List (Af×List AV)) (r:AT)
 |br (a b:AT)
 |frz (d:Nat) (js:List (Nat×List (List D))) (cs:List (Af×Nat×List (List D))) (r:AT)
 |adc (k:Af) (i d:Nat) (e:TypeId) (sz:Nat) (r:AT)
 |mv (d j:Nat) (r:AT)
 |ads (j d:Nat) (e:TypeId) (sz:Nat) (r:AT)
 |trim (k:Af) (c:List AV) (r:AT)
 |reb (j d m:Nat) (c:List AV) (r:AT)
 |sep (r:AT)
 |hard (x:AV) (ks:List Af) (hb:List (Af×Blk)) (fr:List Af) (r:AT)
 |ents (es:List (List D)) (r:AT)
 |all (a:AT) (f:Nat→AT)
 |fzm (d:Nat) (js:List Nat) (r:AT)
 |fzb (d:Nat) (js:List Nat) (r:AT)
 |rnm (d d' e i:Nat) (r:AT)
 |mvc (d q e i:Nat) (r:AT)
 |one (v:Bool) (r:AT)
structure Ren where
 κ:Af→Af
 γ:Af→Nat
 θ:Nat→AV
 H0:Hp
 no:Af→Prop
mutual
def ren(r:Ren):AV→AV
 |.ref k g off n=>.ref (r.κ k) (r.γ k+g) off n
 |.ptr k g off=>.ptr (r.κ k) (r.γ k+g) off
 |.mp k g=>.mp (r.κ k) (r.γ k+g)
 |.fn f xs ys=>match f with
  |.yield i=>r.θ i
  |f=>.fn f (Ar r xs) (Ar r ys)
 |.agg xs=>.agg (Ar r xs)
 |.tup xs=>.tup (Ar r xs)
 |.top=>.top
 |.d x=>.d x
 |.e0=>.e0
 |.p x=>.p x
 |.iptr cs off=>.iptr cs off
 |.ifc t ds a=>.ifc t ds a
def Ar(r:Ren):List AV→List AV
 |[]=>[]
 |x::xs=>ren r x::Ar r xs
end
def AS(r:Ren)(k:Af)(b:Blk):Blk:=⟨r.γ k+b.g,true,b.e,b.sz,Ar r b.cells⟩
theorem FJ{r:Ren}(xs:List AV):Ar r xs=xs.map (ren r):=by
 induction xs with
 |nil=>simp[Ar]
 |cons x xs a=>simp[Ar,a]
theorem CK{r:Ren}(xs:List AV):(Ar r xs).length=xs.length:=by rw[FJ,YG]
theorem G8{r:Ren}(xs ys:List AV):Ar r (xs++ys)=Ar r xs++Ar r ys:=by simp[FJ]
theorem E2{r:Ren}(xs:List AV)(n:Nat):(Ar r xs).drop n=Ar r (xs.drop n):=by simp[FJ]
theorem FH{r:Ren}(xs:List AV)(n:Nat):(Ar r xs).take n=Ar r (xs.take n):=by simp[FJ]
theorem H7{r:Ren}(xs:List AV)(n:Nat):(Ar r xs)[n]?=(xs[n]?).map (ren r):=by simp[FJ]
theorem H9{r:Ren}(xs:List D):Ar r (xs.map .d)=xs.map .d:=by
 induction xs with
 |nil=>simp[Ar]
 |cons x xs a=>simp only[YW,Ar,ren,a]
theorem Zxv{r:Ren}{xs:List AV}(h:xs≠[]):Ar r xs≠[]:=by cases xs<;>simp_all[Ar]
def DD(r:Ren)(H a:Hp):Prop:=∀k,(H k).live=true→a (r.κ k)=AS r k (H k)
def Bs{α:Type}:List α→Nat→Option α
 |[],_=>none
 |x::_,0=>some x
 |_::xs,i+1=>Bs xs i
theorem Cs{α:Type}:∀(xs:List α) (i:Nat),Bs xs i=xs[i]?
 |[],i=>by simp[Bs]
 |x::xs,0=>by simp[Bs]
 |x::xs,i+1=>by simp[Bs,Cs xs i]
def JK{α:Type}:Nat→List α→Option (List α)
 |0,_=>some []
 |n+1,x::xs=>match JK n xs with|some r=>some (x::r)|none=>none
 |_+1,[]=>none
theorem kK{α:Type}:∀(n:Nat) (xs r:List α),JK n xs=some r→xs.take n=r∧n≤xs.length
 |0,xs,r,h=>by simp only[JK,Yj]at h;subst h;simp
 |n+1,[],r,h=>by simp[JK]at h
 |n+1,x::xs,r,h=>by
  simp only[JK]at h
  split at h
  ·rename_i q a
   cases h
   obtain⟨b,c⟩:=kK n xs q a
   grind
  ·cases h
def B3(H:Hp)(k:Af)(g:Nat):Bool:=Nat.beq g (H k).g&&(H k).live
theorem Ex{H:Hp}{k:Af}{g:Nat}(h:B3 H k g=true):g=(H k).g∧(H k).live=true:=by
 simp only[B3,Yc]at h
 exact⟨Yd h.1,h.2⟩
theorem DD.at{r:Ren}{H a:Hp}(h:DD r H a){k:Af}{g:Nat}(hl:B3 H k g=true):r.γ k+g=(a (r.κ k)).g∧(a (r.κ k)).live=true∧(a (r.κ k)).e=(H k).e∧(a (r.κ k)).sz=(H k).sz∧(a (r.κ k)).cells=Ar r (H k).cells:=by
 obtain⟨b,c⟩:=Ex hl
 rw[h k c]
 subst b
 exact⟨rfl,rfl,rfl,rfl,rfl⟩
def Bp(g:Option Bool)(S:Prop):Prop:=
 match g with
 |none=>S
 |some b=>b=true→S
theorem BB{g:Option Bool}{S:Prop}(a:∀b,g=some b→b=true)(h:Bp g S):S:=by
 unfold Bp at h
 grind
def DN(cs:List AV)(off:Nat)(c:List AV):Prop:=(cs.drop off).take c.length=c
def Jo(a:List (List D))(n:Int)(e:List D):Prop:=0≤n∧a[n.toNat]?=some e
def Mp(n:Int)(len off sz o:Nat):Prop:=0≤n∧n<len∧(off+n.toNat)*sz=o
def Jk(s:ByteArray)(n b:Int):Prop:=0≤n∧∃x:UInt8,s.data.toList[n.toNat]?=some x∧b=x.toNat
def Cy(k:IntKind)(a r:Int):Prop:=k.wrap a=r
def BK(a b:Int):Prop:=a=b
def SD(a b:Int):Prop:=a≠b
def SB(a b:Int):Prop:=a≤b
def yN(a b:ByteArray):Prop:=a.size+b.size≤9223372036854775807
def D1(dflt:Nat)(o:Option AV)(l:Nat):Prop:=
 match o with
 |none=>l=dflt
 |some (.d (.int _ n))=>n=l
 |_=>False
def Gg(l h n:Nat):Prop:=l≤h∧h≤n
def SF(es:List (List D))(sz l h:Nat)(a:List (List D)):Prop:=(∀e,e∈es→e.length=sz)∧(es.drop l).take (h-l)=a
def ZS(off l h o n:Nat):Prop:=off+l=o∧h-l=n
def fK(t:Bool)(a b:AV):AV:=
 match a,b with
 |.d (.bool x),.d (.bool y)=>.d (.bool (cond t x y))
 |a,b=>cond t a b
theorem ZAu(t:Bool)(a b:AV):fK t a b=if t then a else b:=by
 unfold fK
 grind
def Nj(i:TI)(H:Hp)(x:AV)(g:Option Bool)(a:AT)(K:AV→AT→Prop):Prop:=
 match x with
 |.iptr cs off=>match i.agg with
  |true=>match Nat.ble 1 i.siz,JK i.siz (cs.drop off)with|true,some c=>K (.agg (c.map .d)) a|_,_=>False
  |false=>match Bs cs off with|some c=>K (.d c) a|none=>False
 |.ptr k q off=>match B3 H k q with
  |true=>match a with
   |.go r=>(match i.agg with
    |true=>match Nat.ble 1 i.siz,JK i.siz ((H k).cells.drop off)with|true,some c=>K (.agg c) r|_,_=>False
    |false=>match Bs (H k).cells off with|some c=>K c r|none=>False)
   |.cs c r=>(match i.agg with
    |true=>match Nat.ble 1 i.siz,Nat.beq c.length i.siz with|true,true=>Bp g (DN (H k).cells off c)∧K (.agg c) r|_,_=>False
    |false=>match c with|[x]=>Bp g (DN (H k).cells off [x])∧K x r|_=>False)
   |_=>False
  |false=>False
 |_=>False
def Vj(i:TI)(H:Hp)(f:Nat)(x:AV)(a:AT)(K:AV→AT→Prop):Prop:=
 match Bs i.fld f with
 |some (o,n,_)=>match Nat.ble 1 n with
  |true=>(match x with
   |.iptr cs off=>K (.iptr cs (off+o)) a
   |.ptr k q off=>match B3 H k q with|true=>K (.ptr k q (off+o)) a|false=>False
   |_=>False)
  |false=>False
 |none=>False
def WQ(i:TI)(f:Nat)(x:AV)(a:AT)(K:AV→AT→Prop):Prop:=
 match Bs i.fld f,x with
 |some (o,n,true),.agg cs=>(match Nat.ble 1 n with|true=>K (.agg ((cs.drop o).take n)) a|false=>False)
 |some (o,_,false),.agg cs=>(match Bs cs o with|some c=>K c a|none=>False)
 |_,_=>False
def Vo(i:TI)(H:Hp)(x j:AV)(g:Option Bool)(a:AT)(K:AV→AT→Prop):Prop:=
 match i.elm,j with
 |some (_,sz),.d (.int _ n)=>(match x,a with
  |.d (.list b),.ds e r=>(match Nat.beq e.length sz,Nat.ble 1 sz with|true,true=>Bp g (Jo b n e)∧K (.iptr e 0) r|_,_=>False)
  |.ref k q off len,.nat o r=>(match B3 H k q,Nat.beq (H k).sz sz,Nat.ble 1 sz with|true,true,true=>Bp g (Mp n len off sz o)∧K (.ptr k q o) r|_,_,_=>False)
  |_,_=>False)
 |_,_=>False
def WG(i:TI)(x j:AV)(g:Option Bool)(a:AT)(K:AV→AT→Prop):Prop:=
 match x,j,a with
 |.d (.str s),.d (.int _ n),.num b r=>(match Nat.beq i.kin 2 with|true=>Bp g (Jk s n b)∧K (.d (.int .u8 b)) r|false=>False)
 |_,_,_=>False
def Uc(op:BinOp)(k:IntKind)(x y:Int)(g:Option Bool)(a:AT)(K:AV→AT→Prop):Prop:=
 match op with
 |.eql=>K (.d (.bool (decide (x=y)))) a
 |.neq=>K (.d (.bool (!decide (x=y)))) a
 |.lss=>K (.d (.bool (decide (x<y)))) a
 |.leq=>K (.d (.bool (decide (x≤y)))) a
 |.gtr=>K (.d (.bool (decide (y<x)))) a
 |.geq=>K (.d (.bool (decide (y≤x)))) a
 |.add=>match a with|.num n r=>Bp g (Cy k (x+y) n)∧K (.d (.int k n)) r|_=>False
 |.sub=>match a with|.num n r=>Bp g (Cy k (x-y) n)∧K (.d (.int k n)) r|_=>False
 |.mul=>match a with|.num n r=>Bp g (Cy k (x*y) n)∧K (.d (.int k n)) r|_=>False
 |.quo=>match a with|.num n r=>Bp g (SD y 0)∧Bp g (Cy k (x.tdiv y) n)∧K (.d (.int k n)) r|_=>False
 |.rem=>match a with|.num n r=>Bp g (SD y 0)∧Bp g (BK (x.tmod y) n)∧K (.d (.int k n)) r|_=>False
 |.shr=>match a with|.num n r=>Bp g (SB 0 y)∧Bp g (BK (x.fdiv (2^(min y.toNat k.bits))) n)∧K (.d (.int k n)) r|_=>False
 |.shl=>match a with|.num n r=>Bp g (SB 0 y)∧Bp g (Cy k (x*2^(min y.toNat k.bits)) n)∧K (.d (.int k n)) r|_=>False
 |.and=>match a with|.num n r=>Bp g (BK (Dj k x y) n)∧K (.d (.int k n)) r|_=>False
 |.or=>match a with|.num n r=>Bp g (BK (GU k x y) n)∧K (.d (.int k n)) r|_=>False
 |.xor=>match a with|.num n r=>Bp g (BK (Ma k x y) n)∧K (.d (.int k n)) r|_=>False
 |_=>False
def TP(op:BinOp)(x y:ByteArray)(g:Option Bool)(a:AT)(K:AV→AT→Prop):Prop:=
 match op with
 |.add=>Bp g (yN x y)∧K (.d (.str (x++y))) a
 |.eql=>K (.d (.bool (decide (x=y)))) a
 |.neq=>K (.d (.bool (!decide (x=y)))) a
 |.lss=>K (.d (.bool (BJ x y))) a
 |.leq=>K (.d (.bool (BJ x y||decide (x=y)))) a
 |.gtr=>K (.d (.bool (!(BJ x y||decide (x=y))))) a
 |.geq=>K (.d (.bool (!BJ x y))) a
 |_=>False
def Mx(H:Hp)(neg:Bool)(x:AV)(a:AT)(K:AV→AT→Prop):Prop:=
 match x with
 |.e0=>∀b,K (.d (.bool b)) a
 |.d (.list c)=>∀b,(c≠[]→b=neg)→K (.d (.bool b)) a
 |.ref k q _ n=>(match B3 H k q with|true=>∀b,(n≠0→b=neg)→K (.d (.bool b)) a|false=>False)
 |_=>False
def ikB:IntKind→IntKind→Bool
 |.i8,.i8|.i16,.i16|.i32,.i32|.i64,.i64|.u8,.u8|.u16,.u16|.u32,.u32|.u64,.u64=>true
 |_,_=>false
theorem ZPB{a b:IntKind}(h:ikB a b=true):a=b:=by cases a<;>cases b<;>first|rfl|cases h
def TT(i:TI)(H:Hp)(op:BinOp)(c:Bool)(x y:AV)(g:Option Bool)(a:AT)(K:AV→AT→Prop):Prop:=
 match x,y with
 |.d (.int k m),.d (.int k' n)=>(match ikB k k' with|true=>Uc op k m n g a K|false=>False)
 |.d (.str m),.d (.str n)=>TP op m n g a K
 |.d (.bool m),.d (.bool n)=>(match Nat.beq i.kin 1 with
  |true=>(match op with
   |.eql=>K (.d (.bool (m==n))) a
   |.neq=>K (.d (.bool (!(m==n)))) a
   |_=>False)
  |false=>False)
 |.agg xs,.agg ys=>(match i.eqt with
  |some ks=>(match EG ks xs ys with
   |some b=>(match op with
    |.eql=>K (.d (.bool b)) a
    |.neq=>K (.d (.bool (!b))) a
    |_=>False)
   |none=>False)
  |none=>False)
 |x,.e0=>(match c,Nat.beq i.kin 4 with
  |true,true=>(match op with
   |.eql=>Mx H false x a K
   |.neq=>Mx H true x a K
   |_=>False)
  |_,_=>False)
 |_,_=>False
def Zv(op:UnOp)(x:AV)(g:Option Bool)(a:AT)(K:AV→AT→Prop):Prop:=
 match op,x with
 |.not,.d (.bool b)=>K (.d (.bool (!b))) a
 |.neg,.d (.int k n)=>(match a with|.num m r=>Bp g (Cy k (0-n) m)∧K (.d (.int k m)) r|_=>False)
 |.xor,.d (.int k n)=>(match a with|.num m r=>Bp g (BK (Jh k n) m)∧K (.d (.int k m)) r|_=>False)
 |_,_=>False
def Xl(s d:TI)(x:AV)(g:Option Bool)(a:AT)(K:AV→AT→Prop):Prop:=
 match x with
 |.d (.int _ n)=>(match s.ik,d.ik,a with|some _,some k,.num m r=>Bp g (Cy k n m)∧K (.d (.int k m)) r|_,_,_=>False)
 |.d (.str s')=>(match Nat.beq s.kin 2,Nat.beq d.kin 2 with|true,true=>K (.d (.str s')) a|_,_=>False)
 |_=>False
def WZ(i:TI)(H:Hp)(x:AV)(lo hi:Option AV)(e:Bool)(g:Option Bool)(a:AT)(K:AV→AT→Prop):Prop:=
 match e,a with
 |false,.nat l (.nat h r)=>(match x with
  |.d (.str s)=>(match Nat.beq i.kin 2 with|true=>Bp g (D1 0 lo l)∧Bp g (D1 s.size hi h)∧Bp g (Gg l h s.size)∧K (.d (.str (s.extract l h))) r|false=>False)
  |.d (.list es)=>(match i.elm,r with
   |some (_,sz),.av (.d (.list b)) r=>(match Nat.ble 1 sz with
    |true=>Bp g (D1 0 lo l)∧Bp g (D1 es.length hi h)∧Bp g (Gg l h es.length)∧Bp g (SF es sz l h b)∧K (.d (.list b)) r
    |false=>False)
   |_,_=>False)
  |.ref k q off n=>(match i.elm,r,B3 H k q with
   |some (_,sz),.nat d (.nat c r),true=>(match Nat.ble 1 sz,Nat.beq (H k).sz sz with
    |true,true=>Bp g (D1 0 lo l)∧Bp g (D1 n hi h)∧Bp g (Gg l h n)∧Bp g (ZS off l h d c)∧K (.ref k q d c) r
    |_,_=>False)
   |_,_,_=>False)
  |_=>False)
 |_,_=>False
def Uf(i:TI)(H:Hp)(x:AV)(g:Option Bool)(a:AT)(K:AV→AT→Prop):Prop:=
 match x,a with
 |.d (.str s),.num n r=>(match Nat.beq i.kin 2 with|true=>Bp g (BK s.size n)∧K (.d (.int .i64 n)) r|false=>False)
 |.d (.list es),.num n r=>(match Nat.beq i.kin 4 with|true=>Bp g (BK es.length n)∧K (.d (.int .i64 n)) r|false=>False)
 |.e0,.num n r=>(match Nat.beq i.kin 4 with|true=>Bp g (BK 0 n)∧K (.d (.int .i64 n)) r|false=>False)
 |.ref k q _ m,.num n r=>(match Nat.beq i.kin 4,B3 H k q with|true,true=>Bp g (BK m n)∧K (.d (.int .i64 n)) r|_,_=>False)
 |_,_=>False
def n7(H:Hp):AV→Option (Bool×List (List D))
 |.d (.map q a)=>some (q,a)
 |.mp k g=>match B3 H k g,(H k).e with
  |true,.m q a=>some (q,a)
  |_,_=>none
 |_=>none
def bqB:Bool→Bool→Bool
 |true,true=>true
 |false,false=>true
 |_,_=>false
theorem ZMV{a b:Bool}(h:bqB a b=true):a=b:=by cases a<;>cases b<;>first|rfl|cases h
def Rh(a:List (List D))(s:ByteArray)(z vs:List D)(ok:Bool):Prop:=(FR s a).isSome=ok∧(FR s a).getD z=vs
def Ze(i:TI)(H:Hp)(x y:AV)(b:Bool)(g:Option Bool)(a:AT)(K:AV→AT→Prop):Prop:=
 match i.mp,n7 H x,y,a with
 |some (q,z),some (d,c),.d (.str s),.av (.d (.bool ok)) (.ds vs r)=>(match bqB q d with
  |true=>Bp g (Rh c s z vs ok)∧K (N1 b q vs ok) r
  |false=>False)
 |_,_,_,_=>False
def qe(i:TI)(f:Nat):Option (Nat×Nat):=match Bs i.fld f with|some (o,n,_)=>some (o,n)|none=>none
def RK(i:TI)(cells:List AV):List (Nat×AV)→Option (List AV)
 |[]=>some cells
 |(f,v)::a=>match qe i f,CZ v with
  |some (off,size),some vs=>match Nat.beq vs.length size,Nat.ble (off+vs.length) cells.length with
   |true,true=>RK i (cells.take off++vs++cells.drop (off+vs.length)) a
   |_,_=>none
  |_,_=>none
def WA(i:TI)(parts:List (Nat×AV))(a:AT)(K:AV→AT→Prop):Prop:=
 match i.str,i.zer with
 |true,some z=>(match RK i z parts with|some cs=>K (.agg cs) a|none=>False)
 |_,_=>False
def Js:AV→Bool
 |.fn (.yield _) _ _=>false
 |_=>true
def tV(T:Nat→Option TI)(H:Hp)(op:Op)(ρ:Operand→AV)(g:Option Bool)(a:AT)(K:AV→AT→Prop):Prop:=
 match op with
 |.move x=>K (ρ x) a
 |.assign x=>K (ρ x) a
 |.pick c x y=>match ρ c with|.d (.bool t)=>K (fK t (ρ x) (ρ y)) a|_=>False
 |.load t x=>match T t with|some i=>Nj i H (ρ x) g a K|none=>False
 |.fieldAddr t x f=>match T t with|some i=>Vj i H f (ρ x) a K|none=>False
 |.field t x f=>match T t with|some i=>WQ i f (ρ x) a K|none=>False
 |.indexAddr t x j=>match T t with|some i=>Vo i H (ρ x) (ρ j) g a K|none=>False
 |.index t x j=>match T t with|some i=>WG i (ρ x) (ρ j) g a K|none=>False
 |.extract x j=>match ρ x with|.tup vs=>(match Bs vs j with|some y=>K y a|none=>False)|_=>False
 |.binOp o t x y _=>match T t with|some i=>TT i H o (JJ y) (ρ x) (ρ y) g a K|none=>False
 |.unOp o _ x=>Zv o (ρ x) g a K
 |.nilCheck x=>match ρ x with|.ptr k q off=>(match B3 H k q with|true=>K (.ptr k q off) a|false=>False)|.iptr cs off=>K (.iptr cs off) a|_=>False
 |.convert s d x=>match T s,T d with|some i,some j=>Xl i j (ρ x) g a K|_,_=>False
 |.makeInterface t x=>match T t with|some i=>(match i.str||i.elm.isSome,ρ x with|true,.agg xs=>(match My xs with|some ds=>K (.ifc t ds true) a|none=>False)|true,.d x=>K (.ifc t [x] false) a|_,_=>False)|none=>False
 |.typeAssert x _ t ok=>match T t with|some i=>(match i.str||i.elm.isSome,ρ x with|true,.ifc u ds q=>(match Nat.beq u t,upk q ds with|true,some v=>K (cond ok (.tup [v,.d (.bool true)]) v) a|_,_=>False)|_,_=>False)|none=>False
 |.makeFunc fn first b=>match fn with|.yield _=>False|fn=>K (.fn fn (first.toList.map ρ) (b.toList.map ρ)) a
 |.slice t x lo hi h=>match T t with|some i=>WZ i H (ρ x) (lo.map ρ) (hi.map ρ) h.isSome g a K|none=>False
 |.lookup t x y e=>match T t with|some i=>Ze i H (ρ x) (ρ y) e g a K|none=>False
 |.build t parts=>match T t,parts.toList.all (fun p=>Js (ρ p.2))with|some i,true=>WA i (parts.toList.map fun p=>(p.1,ρ p.2)) a K|_,_=>False
 |.call c=>match c.callee,c.args.toList,c.argTypes.toList with
  |.builtin .len,[x],[t]=>match T t with|some i=>Uf i H (ρ x) g a K|none=>False
  |.builtin .min,[x,y],_=>Ep false (ρ x) (ρ y) (fun v=>K v a)
  |.builtin .max,[x,y],_=>Ep true (ρ x) (ρ y) (fun v=>K v a)
  |.builtin .max,[x,y,z],_=>Hx true (ρ x) (ρ y) (ρ z) (fun v=>K v a)
  |_,_,_=>False
 |_=>False
end Go.Eng
namespace Go.Eng
open Go
set_option linter.all false
inductive Waits (ops:Array Oper):Nat→Nat→Prop
 |one {j i:Nat} {oj:Oper} {e:Edge} (hj:ops[j]?=some oj) (he:e∈oj.after) (hb:Region.binds .any e=true) (hi:e.on=i):Waits ops j i
 |more {j m i:Nat} {oj:Oper} {e:Edge} (hj:ops[j]?=some oj) (he:e∈oj.after) (hb:Region.binds .any e=true) (hm:e.on=m) (h:Waits ops m i):Waits ops j i
def Qh(L:List Oper)(i:Nat):Nat→Nat→Bool
 |0,_=>false
 |a+1,j=>match Bs L j with|some b=>b.after.toList.any fun e=>Region.binds .any e&&(Nat.beq e.on i||Qh L i a e.on)|none=>false
theorem jX{L:List Oper}{i:Nat}:∀(a j:Nat),Qh L i a j=true→Waits L.toArray j i
 |0,j,h=>by cases h
 |a+1,j,h=>by
  unfold Qh at h
  rw[Cs]at h
  split at h
  ·rename_i f d
   obtain⟨e,he,h⟩:=YQ.1 h
   rw[Yc,YH]at h
   have c:L.toArray[j]?=some f:=by simpa using d
   rcases h.2 with b|b
   ·exact .one c (by simpa using he) h.1 (Yd b)
   ·exact .more c (by simpa using he) h.1 rfl (jX a _ b)
  ·cases h
def DC(ops:Array Oper)(a:Array Bool):Prop:=∀(m:Nat) (b:Oper),ops[m]?=some b→a.getD m false=true→∀e∈b.after,Region.binds .any e=true→a.getD e.on false=true
theorem DC.waits{ops:Array Oper}{a:Array Bool}(h:DC ops a){j i:Nat}(d:Waits ops j i):a.getD j false=true→a.getD i false=true:=by
 induction d with
 |one c he b hi=>intro hl;rw[←hi];exact h _ _ c hl _ he b
 |more c he b hm _ e=>intro hl;exact e (by rw[←hm];exact h _ _ c hl _ he b)
theorem ZI1{a:Array Bool}{i:Nat}(h:a.getD i true=false):a.getD i false=false:=by
 grind
theorem DC.ready{ops:Array Oper}{a:Array Bool}(h:DC ops a){j:Nat}(g:j∈Region.ready .any ops a):DC ops (a.setIfInBounds j true):=by
 obtain⟨k,l,d,b⟩:=mem_ready.1 g
 intro m i hm hl e he f
 by_cases c:j=m
 ·subst c
  rw[d]at hm
  cases hm
  exact getD_set_true (b e he f)
 ·rw[getD_set_ne false c]at hl
  exact getD_set_true (h m i hm hl e he f)
theorem DC.nowait{ops:Array Oper}{a:Array Bool}(h:DC ops a){j i:Nat}(k:j∈Region.ready .any ops a)(hi:a.getD i true=false):¬Waits ops j i:=fun l=>by
 obtain⟨m,n,d,c⟩:=mem_ready.1 k
 have hi:=ZI1 hi
 cases l with
 |one b he f g=>
  grind
 |more b he f hm e=>
  rw[d]at b
  cases b
  have:=h.waits e (by rw[←hm];exact c _ he f)
  grind
def B5(o:Oper):Bool:=match o.op,o.dst,o.guard with
 |.store _ _ _,none,none=>true
 |_,_,_=>false
def HE(o:Oper):Bool:=match o.op with
 |.move _=>true
 |.binOp b _ _ _ _=>(match b with|.add=>true|.sub=>true|_=>false)
 |.indexAddr _ _ _=>true
 |.fieldAddr _ _ _=>true
 |.nilCheck _=>true
 |_=>false
def iA(H H':Hp):Prop:=∀k,(H' k).g=(H k).g∧(H' k).live=(H k).live∧(H' k).sz=(H k).sz
def OO(L:List Oper)(p:Oper)(k:Nat):Bool:=Cf p k||p.after.toList.any fun e=>Region.binds .any e&&(match L[e.on]? with|some a=>Cf a k|none=>false)
def T5(L:List Oper)(o:Oper)(k:Nat):Nat→List Oper→Bool
 |_,[]=>true
 |j,p::r=>(match B5 o with|true=>Cf p k|false=>true)&&(match B5 p with|true=>HE o||OO L p k|false=>true)&&!Cf o j&&T5 L o k (j+1) r
def LR(L:List Oper):Nat→List Oper→Bool
 |_,[]=>true
 |k,o::r=>T5 L o k (k+1) r&&LR L (k+1) r
theorem Zts{L:List Oper}{o:Oper}{k:Nat}:∀{l:List Oper} {j i:Nat} {p:Oper},T5 L o k j l=true→l[i]?=some p→(B5 o=true→Cf p k=true)∧(B5 p=true→HE o=true∨OO L p k=true)∧Cf o (j+i)=false
 |[],j,i,p,_,h=>by simp at h
 |q::r,j,i,p,a,h=>by
  simp only[T5,Yc,YJ]at a
  cases i with
  |zero=>
   grind
  |succ i=>
   have:=Zts a.2 (i:=i) (by simpa using h)
   grind
theorem oP{L:List Oper}:∀{l:List Oper} {k i j:Nat} {o p:Oper},LR L k l=true→i<j→l[i]?=some o→l[j]?=some p→(B5 o=true→Cf p (k+i)=true)∧(B5 p=true→HE o=true∨OO L p (k+i)=true)∧Cf o (k+j)=false
 |[],k,i,j,o,p,_,_,h,_=>by simp at h
 |q::r,k,i,j,o,p,b,c,h,a=>by
  simp only[LR,Yc]at b
  cases j with
  |zero=>omega
  |succ j=>
   have a:r[j]?=some p:=by simpa using a
   cases i with
   |zero=>
    simp only[Gl,Yj]at h
    subst h
    have:=Zts b.1 a
    grind
   |succ i=>
    have:=oP b.2 (Nat.lt_of_succ_lt_succ c) (by simpa using h) a
    grind
theorem kF{p:Oper}{k:Nat}(h:Cf p k=true)(b:∀e∈p.after,Region.binds .any e=true→e.on≠k):False:=by
 unfold Cf at h
 rw[YQ]at h
 obtain⟨e,he,a⟩:=h
 simp only[Yc]at a
 exact b e (by simpa using he) a.1 (Yd a.2)
section
variable {P:Program} {l n:Nat} {B:Base} {H H':Hp} {ops:Array Oper} {ρ:Operand→AV}
theorem xl{o:Oper}{v:AV}(h:HE o=true)(hs:iA H H')(a:qV P l H o ρ v):qV P l H' o ρ v:=by
 obtain⟨e,op,type,pos,after,guard⟩:=o
 cases op<;>simp only[HE]at h<;>first|(cases h;done)|skip
 case move=>exact a
 case nilCheck=>
  simp only[qV,Bb]at a⊢
  unfold Jg at a⊢
  split at a
  ·rename_i k g off _
   obtain⟨b,c,d⟩:=hs k
   grind
  ·exact a
  ·grind
 case fieldAddr=>
  simp only[qV,Bb]at a⊢
  unfold E0 at a⊢
  split at a
  ·exact a
  ·rename_i k g off o n _ _
   obtain⟨b,c,d⟩:=hs k
   grind
  ·grind
 case indexAddr=>
  simp only[qV,Bb]at a⊢
  unfold Ew at a⊢
  split at a
  ·exact a
  ·rename_i k g off len _ n _ sz _ _ _
   obtain⟨b,c,d⟩:=hs k
   grind
  ·grind
 case binOp=>
  simp only[qV,Bb]at a⊢
  unfold CL at a⊢
  split at a
  ·exact a
  ·exact a
  ·grind
  ·exact a
  ·grind
  ·grind
theorem ZSx{o:Oper}{s:Nat→AV}{v:AV}(h:HE o=true)(hs:iA H H')(a:YA P l H ops o s v):YA P l H' ops o s v:=by
 unfold YA at a⊢
 split at a
 ·exact xl h hs a
 ·split at a
  ·exact⟨fun e=>xl h hs (a.1 e),a.2⟩
  grind
def G1(P:Program)(l:Nat)(o:Oper)(s:Nat→AV)(H H':Hp):Prop:=match o.op with
 |.store t a x=>match ev s a,CZ (ev s x)with
  |.ptr k g off,some vs=>g=(H k).g∧(H k).live=true∧vs.length=P.cellsOf t∧vs≠[]∧off+vs.length≤(H k).cells.length∧(k.1=l+1∨vs.all (AV.low k.1)=true)∧
    H'=updH H k {H k with cells:=(H k).cells.take off++vs++(H k).cells.drop (off+vs.length) }
  |_,_=>False
 |_=>False
theorem ZKq{o:Oper}{s:Nat→AV}(h:G1 P l o s H H'):iA H H':=by
 unfold G1 at h
 split at h
 ·split at h
  ·obtain⟨_,_,_,_,_,_,rfl⟩:=h
   intro k
   unfold updH
   grind
  grind
 grind
theorem ZN6{o:Oper}{s:Nat→AV}{K:St→Prop}(hs:B5 o=true)(h:BG P l n o K ⟨s,H⟩):∃H',G1 P l o s H H'∧K ⟨s,H'⟩:=by
 obtain⟨a,op,type,pos,after,guard⟩:=o
 cases op<;>simp only[B5]at hs<;>first|(cases hs;done)|skip
 cases a with
 |some d=>cases hs
 |none=>
  simp only[BG]at h
  simp only[G1]
  grind
theorem ZLo{o:Oper}{s:Nat→AV}{K:St→Prop}(hs:B5 o=true)(h:G1 P l o s H H')(b:K ⟨s,H'⟩):BG P l n o K ⟨s,H⟩:=by
 obtain⟨a,op,type,pos,after,guard⟩:=o
 cases op<;>simp only[B5]at hs<;>first|(cases hs;done)|skip
 cases a with
 |some d=>cases hs
 |none=>
  simp only[G1]at h
  simp only[BG]
  grind
theorem ZGr{o:Oper}{s:Nat→AV}{d:Nat}{u:AV}(g:d∉o.looksAt ops)(h:G1 P l o (upd s d u) H H'):G1 P l o s H H':=by
 have b:∀x∈o.op.operands,ev (upd s d u) x=ev s x:=fun x hx=>by
  cases x with
  |tmp t=>
   have c:t≠d:=fun e=>g (by
    subst e
    exact HS _ (List.mem_filterMap.2 ⟨.tmp t,by simpa using hx,rfl⟩))
   simp[ev,upd,c]
  |_=>rfl
 unfold G1 at h⊢
 split at h
 ·rename_i t a x f
  rw[b a (by rw[f];simp[Op.operands]),b x (by rw[f];simp[Op.operands])]at h
  exact h
 grind
variable {fin:Bool} {X:St→Prop}
def Fq(P:Program)(l n:Nat)(ops:Array Oper)(fin:Bool)(X:St→Prop)(i:Nat)(K:St→Prop)(σ:St):Prop:=
 match ops[i]? with
 |none=>K σ
 |some o=>(C1 o=true∧∃d v,o.dst=some d∧d<n∧YA P l σ.H ops o σ.s v∧K ⟨upd σ.s d v,σ.H⟩)∨(B5 o=true∧∃H',G1 P l o σ.s σ.H H'∧K ⟨σ.s,H'⟩)∨(fin=true∧i+1=ops.size∧X σ)
def Ku(P:Program)(l n:Nat)(ops:Array Oper)(fin:Bool)(X:St→Prop)(Q:St→Prop):Nat→Array Bool→St→Prop
 |0,a,σ=>Region.ready .any ops a=[]∧Q σ
 |fuel+1,a,σ=>(Region.ready .any ops a=[]→Q σ)∧∀i∈Region.ready .any ops a,Fq P l n ops fin X i (Ku P l n ops fin X Q fuel (a.setIfInBounds i true)) σ
theorem ZAe{i:Nat}{K g:St→Prop}{σ:St}(h:∀s,K s→g s)(b:Fq P l n ops fin X i K σ):Fq P l n ops fin X i g σ:=by
 unfold Fq at*
 split
 ·rename_i e;rw[e]at b;exact h _ b
 ·rename_i o e
  rw[e]at b
  rcases b with⟨a,d,v,c,f,j,k⟩|⟨a,H',c,f⟩|a
  ·exact .inl ⟨a,d,v,c,f,j,h _ k⟩
  ·exact .inr (.inl ⟨a,H',c,h _ f⟩)
  ·exact .inr (.inr a)
theorem ZG5{i j:Nat}{c t:Oper}{d:Nat}{v:AV}(A:ops[j]?=some t)(a:c.dst=some d)(m:c.apart ops t=true)(p:B5 t=true→HE c=true)(r:fin=true→j+1≠ops.size){K:St→Prop}{s:Nat→AV}
  (hy:YA P l H ops c s v) (h:Fq P l n ops fin X j K ⟨upd s d v,H⟩):Fq P l n ops fin X j (fun g=>YA P l g.H ops c g.s v∧K ⟨upd g.s d v,g.H⟩) ⟨s,H⟩:=by
 obtain⟨w,x,y⟩:=Oper.apart_spec m
 unfold Fq at*
 simp only[A]at*
 rcases h with⟨b,e,u,he,o,f,k⟩|⟨b,H',f,k⟩|⟨b,z,_⟩
 ·refine .inl ⟨b,e,u,he,o,tk (w d a) f,ZI0 (y e he) hy,?_⟩
  have q:d≠e:=fun e'=>x d a (e'▸he)
  rw[Zz1 (Ne.symm q)]
  exact k
 ·exact .inr (.inl ⟨b,H',ZGr (w d a) f,ZSx (p b) (ZKq f) hy,k⟩)
 ·exact absurd z (r b)
theorem ZqA{Q:St→Prop}{i:Nat}{p:Oper}{d:Nat}{v:AV}(hi:ops[i]?=some p)(hq:C1 p=true)(E:p.dst=some d)(M:d<n):
  ∀(fuel:Nat) (a:Array Bool) (s:Nat→AV) (H:Hp),
   (∀j w,ops[j]?=some w→j≠i→a.getD j true=false→(∀e∈w.after,Region.binds .any e=true→e.on≠i∧∀b,ops[e.on]?=some b→Cf b i=false)→¬Waits ops j i→p.apart ops w=true∧(B5 w=true→HE p=true)∧(fin=true→j+1≠ops.size))→DC ops a→
   (∀m b,ops[m]?=some b→Cf b i=true→a.getD m true=false)→i∈Region.ready .any ops a→YA P l H ops p s v→
   Ku P l n ops fin X Q fuel (a.setIfInBounds i true) ⟨upd s d v,H⟩→Ku P l n ops fin X Q (fuel+1) a ⟨s,H⟩:=by
 have x:∀{K:St→Prop} {s:Nat→AV} {H:Hp},YA P l H ops p s v→K ⟨upd s d v,H⟩→Fq P l n ops fin X i K ⟨s,H⟩:=fun hy hK=>by
  unfold Fq;simp only[hi];exact .inl ⟨hq,d,v,E,M,hy,hK⟩
 intro fuel
 induction fuel with
 |zero=>
  intro a s H _ _ U u hy C
  refine⟨fun h=>(by rw[h]at u;cases u),fun j B=>?_⟩
  by_cases c:j=i
  ·subst c;exact x hy C
  ·have:=ready_mono B c
   rw[C.1]at this
   cases this
 |succ fuel ih=>
  intro a s H g Y U u hy C
  refine⟨fun h=>(by rw[h]at u;cases u),fun j B=>?_⟩
  by_cases c:j=i
  ·subst c;exact x hy C
  ·have f:=C.2 j (ready_mono B c)
   obtain⟨r,w,A,q⟩:=mem_ready.1 B
   have t:∀e∈w.after,Region.binds .any e=true→e.on≠i:=fun e he J heq=>by
    have f:=q e he J
    have D:=(mem_ready.1 u).1
    rw[heq]at f
    rcases YF i a.size with y|y
    ·simp[y]at D f;rw[D]at f;cases f
    ·simp[Gm y]at f
   have z:∀e∈w.after,Region.binds .any e=true→e.on≠i∧∀b,ops[e.on]?=some b→Cf b i=false:=fun e he J=>⟨t e he J,fun b T=>by
    cases L:Cf b i with
    |false=>rfl
    |true=>
     have f:=q e he J
     have D:=U _ b T L
     rcases YF e.on a.size with y|y
     ·simp[y]at D f;rw[D]at f;cases f
     ·simp[Gm y]at f⟩
   have N:=g j w A c r z (Y.nowait B (mem_ready.1 u).1)
   have h2:=ZG5 (i:=i) A E N.1 N.2.1 N.2.2 hy f
   have o:∀k ok,ops[k]?=some ok→k≠i→(a.setIfInBounds j true).getD k true=false→
     (∀e∈ok.after,Region.binds .any e=true→e.on≠i∧∀b,ops[e.on]?=some b→Cf b i=false)→¬Waits ops k i→p.apart ops ok=true∧(B5 ok=true→HE p=true)∧(fin=true→k+1≠ops.size):=fun k ok hk O I R S=>by
    refine g k ok hk O ?_ R S
    by_cases F:j=k
    ·subst F;exact r
    ·rw[getD_set_ne true F]at I;exact I
   have V:∀m b,ops[m]?=some b→Cf b i=true→(a.setIfInBounds j true).getD m true=false:=fun m b hm L=>by
    by_cases G:j=m
    ·subst G
     rw[A]at hm
     cases hm
     exact(kF L t).elim
    ·rw[getD_set_ne true G];exact U m b hm L
   refine ZAe (fun Z W=>ih (a.setIfInBounds j true) Z.s Z.H o (Y.ready B) V (ready_mono u (Ne.symm c)) W.1 ?_) h2
   rw[q9 _ _ c]
   exact W.2
theorem kP{K K0:St→Prop}{m:Nat}(q:∀k (a:Array Bool) (s:Nat→AV) (H:Hp),k+m=ops.size→(∀j,a.getD j true=false→k≤j)→Region.lexFrom .any ops m k a=true→K0 ⟨s,H⟩→Ku P l n ops fin X K m a ⟨s,H⟩)(x:fin=true→∀i,i+1<ops.size→Waits ops (ops.size-1) i)(A:∀i j N w,i<j→ops[i]?=some N→ops[j]?=some w→(B5 N=true→Cf w i=true)∧(B5 w=true→HE N=true∨OO ops.toList w i=true)∧Cf N j=false):
  ∀(rest:List Oper) (k:Nat) (a:Array Bool) (s:Nat→AV) (H:Hp),rest.all (fun o=>C1 o||B5 o)=true→(∀j,a.getD j true=false→k≤j)→(∀j,k≤j→j<ops.size→a.getD j true=false)→
  k+rest.length+m=ops.size→DC ops a→(∀j,j<rest.length→rest[j]?=ops[k+j]?)→Region.lexFrom .any ops (rest.length+m) k a=true→DQ P l n (ops.toList.map (·.dst)) rest K0 ⟨s,H⟩→Ku P l n ops fin X K (rest.length+m) a ⟨s,H⟩
 |[],k,a,s,H,_,F,_,u,_,_,hB,h=>by
  simp only[HN,YP,G3]at hB u⊢
  exact q k a s H u F hB h
 |o::rest,k,a,s,H,Z,F,hk2,u,hD,hl,hB,h=>by
  have M:ops[k]?=some o:=by simpa using(hl 0 (by simp)).symm
  rw[Fw,Nat.add_right_comm]at hB⊢
  simp only[Region.lexFrom,Yc]at hB
  obtain⟨⟨D,hf⟩,Q⟩:=hB
  have D:k∈Region.ready .any ops a:=by simpa using D
  simp only[IZ,Yc,YH]at Z
  have U:∀j,(a.setIfInBounds k true).getD j true=false→k+1≤j:=fun j E=>by
   by_cases p:k=j
   ·subst p
    exfalso
    rcases YF k a.size with L|L
    ·simp[L]at E
    grind
   ·rw[getD_set_ne true p]at E
    grind
  have G:∀j,k+1≤j→j<ops.size→(a.setIfInBounds k true).getD j true=false:=fun j h1 h2=>by
   rw[getD_set_ne true (by omega)]
   grind
  have hu:∀m om,ops[m]?=some om→Cf om k=true→a.getD m true=false:=fun m om hm ho=>by
   grind
  have W:∀j,j<rest.length→rest[j]?=ops[k+1+j]?:=fun j E=>by have:=hl (j+1) (by simp;omega);simpa[YI,Ow 1 j]using this
  have next:∀s' H',DQ P l n (ops.toList.map (·.dst)) rest K0 ⟨s',H'⟩→Ku P l n ops fin X K (rest.length+m) (a.setIfInBounds k true) ⟨s',H'⟩:=fun s' H' L=>
   kP q x A rest (k+1) _ s' H' (by simpa using Z.2) U G (by simp only[Fw]at u;omega) (hD.ready D) W Q L
  by_cases f:B5 o=true
  ·
   have z:o.guard=none:=by
    cases z:o.guard with
    |none=>rfl
    |some _=>obtain⟨O,op,type,pos,after,guard⟩:=o;simp only at z;subst z;cases op<;>cases O<;>simp[B5]at f
   have J:BG P l n o (DQ P l n (ops.toList.map (·.dst)) rest K0) ⟨s,H⟩:=by
    unfold DQ at h
    simp only[z]at h
    unfold F2 at h
    split at h
    ·rename_i R;simp[B5,R]at f
    ·rename_i c R;simp[B5,R]at f
    ·exact h
   obtain⟨H',hS,hK⟩:=ZN6 f J
   refine⟨fun h=>(by rw[h]at D;cases D),fun j E=>?_⟩
   by_cases p:j=k
   ·subst p
    unfold Fq
    grind
   ·exfalso
    obtain⟨g,w,r,hall⟩:=mem_ready.1 E
    have V:=F j g
    have he:=(A k j o w (by omega) M r).1 f
    refine kF he fun e he y heq=>?_
    grind
  ·have C:C1 o=true:=by rcases Z.1 with h|h;exact h;exact absurd h f
   have hst:∃d v,o.dst=some d∧d<n∧YA P l H ops o s v∧DQ P l n (ops.toList.map (·.dst)) rest K0 ⟨upd s d v,H⟩:=by
    unfold DQ at h
    unfold YA
    cases z:o.guard with
    |none=>simp only[z]at h;exact Zou C h
    |some gw=>
     obtain⟨i,b⟩:=gw
     simp only[z]at h⊢
     split at h
     ·rename_i t ht
      cases t with
      |true=>
       obtain⟨d,v,h1,h2,h3,h4⟩:=Zou C (h.1 rfl)
       grind
      |false=>
       grind
     grind
   obtain⟨d,v,hd,S,hy,hK⟩:=hst
   refine ZqA M C hd S (rest.length+m) a s H (fun j w r p g I Y=>⟨Region.free_spec M hf j w r p g (fun e he y=>(I e he y).1),fun hsj=>?_,fun T B=>Y (by have:=x T k (by have:=F j g;omega);rwa [←B,Nat.add_sub_cancel]at this)⟩) hD hu D hy (next _ _ hK)
   have V:=F j g
   rcases(A k j o w (by omega) M r).2.1 hsj with h|h
   ·exact h
   ·exfalso
    unfold OO at h
    rw[YH]at h
    rcases h with h|h
    ·exact kF h fun e he y=>(I e he y).1
    ·obtain⟨e,he,y⟩:=YQ.1 h
     rw[Yc]at y
     obtain⟨EP,AB⟩:=y
     split at AB
     ·grind
     grind
theorem Zm5{i:Nat}{σ:St}{a:Act}{w:World}{K:St→Prop}{q:Act→World→Prop}{f:Exit→Act→World→Prop}(r:R l n B σ a w)
  (h:∀σ a w,R l n B σ a w→K σ→q a w) (L:fin=true→i+1=ops.size→X σ→wpOp P ops f i q a w) (A:Fq P l n ops fin X i K σ):wpOp P ops f i q a w:=by
 have z:=L
 obtain⟨s,H⟩:=σ
 unfold Fq at A
 unfold wpOp
 split
 ·grind
 ·rename_i o G
  simp only[G]at A
  rcases A with⟨C,d,v,F,g,hy,E⟩|⟨k,H',y,E⟩|⟨T,U,V⟩
  rotate_left 2
  ·have:=z T U V
   unfold wpOp at this
   simpa only[G]using this
  ·have go:qV P l H o (ev s) v→o.wp P a w q f:=fun Q=>by
    have:=ZMl (B:=B) C F g Q a w r f
    refine Oper.wp_mono (fun I w' ⟨D,e,x⟩=>?_) this
    grind
   unfold YA at hy
   cases c:o.guard with
   |none=>
    simp only[c]at hy
    rw[Yk (by simp[Region.wanted,c])]
    grind
   |some J=>
    obtain⟨j,b⟩:=J
    simp only[c]at hy
    split at hy
    ·rename_i t O
     have p:(yielded ops a.tmps j==some b)=t:=by
      obtain⟨m,S,W,Y,M,y,N⟩:=r.un
      exact zQ y O
     cases t with
     |true=>
      rw[Yk (by simp only[Region.wanted,c];exact p)]
      grind
     |false=>
      rw[Ym (by simp only[Region.wanted,c,p];decide)]
      have:=hy.2 rfl
      subst this
      rw[F]
      exact h _ _ _ (R.undef r g) E
    grind
  ·have c:o.guard=none:=by
    cases c:o.guard with
    |none=>rfl
    |some _=>obtain⟨u,op,type,pos,after,guard⟩:=o;simp only at c;subst c;cases op<;>cases u<;>simp[B5]at k
   rw[Yk (by simp[Region.wanted,c])]
   refine .inl ?_
   have:=MO (B:=B) (ZLo (n:=n) (K:=fun D=>D=⟨s,H'⟩) k y rfl) a w r f
   refine Oper.wp_mono (fun I w' ⟨D,e,x⟩=>?_) this
   grind
theorem zw{c:Exit→Act→World→Prop}{b:Array Bool}(h:Region.ready .any ops b=[]){a:Act}{w:World}(d:c .normal a w):∀fuel,wpAny P .any ops c fuel b a w
 |0=>⟨h,d⟩
 |_+1=>⟨fun _=>d,fun i hi=>by rw[h]at hi;cases hi⟩
theorem jN{Q:St→Prop}{p:Exit→Act→World→Prop}(r:∀σ a w,R l n B σ a w→Q σ→p .normal a w)(c:fin=true→∀i,i+1<ops.size→Waits ops (ops.size-1) i)(z:fin=true→∀σ a w,R l n B σ a w→X σ→∀o,ops[ops.size-1]?=some o→wpList P ops p [o] a w):
  ∀(fuel:Nat) (b:Array Bool) (σ:St) (a:Act) (w:World),DC ops b→R l n B σ a w→Ku P l n ops fin X Q fuel b σ→wpAny P .any ops p fuel b a w
 |0,_,_,_,_,_,f,h=>⟨h.1,r _ _ _ f h.2⟩
 |fuel+1,b,σ,a,w,y,f,h=>⟨fun v=>r _ _ _ f (h.1 v),fun i hi=>Zm5 f (fun s' u w' s E=>jN r c z fuel _ s' u w' (y.ready hi) s E) (fun D K I=>by
  obtain⟨v,o,C,A⟩:=mem_ready.1 hi
  have e:ops.size-1=i:=by omega
  have hw:=z D σ a w f I o (by rw[e];exact C)
  have k:Region.ready .any ops (b.setIfInBounds i true)=[]:=by
   refine List.eq_nil_iff_forall_not_mem.2 fun j F=>?_
   obtain⟨m,J,t,_⟩:=mem_ready.1 F
   have G:j<ops.size:=(G4.1 t).1
   by_cases g:i=j
   ·subst g
    rcases YF i b.size with q|q
    ·simp[q]at m
    ·simp[Gm q]at m
   ·rw[getD_set_ne true g]at m
    have x:=c D j (by omega)
    rw[e]at x
    exact y.nowait hi m x
  unfold wpOp
  simp only[C]
  unfold wpList at hw
  split
  ·rename_i d
   rw[Yk d]at hw
   exact hw.imp (Oper.wp_mono fun u w' H=>zw k H _) id
  ·rename_i d
   rw[Ym d]at hw
   exact zw k hw _) (h.2 i hi)⟩
theorem DC.none(n:Nat):DC ops (Array.replicate n false):=fun m b _ h=>by
 rw[Yy]at h
 rcases YF m n with a|a
 ·simp[a]at h
 ·simp[Nat.not_lt.2 a]at h
theorem ZpQ{id:Nat}{ops:List Oper}{σ:St}{Q:Exit→St→Prop}(hm:P.follows .mixedOrders=true)(hB:Region.lexB .any ops.toArray=true)(C:ops.all (fun o=>C1 o||B5 o)=true)(hs:LR ops 0 ops=true)
  (h:DQ P l n (ops.map (·.dst)) ops (Q .normal) σ):BP P l n B (.region id ops.toArray true) Q σ:=by
 intro a w x
 obtain⟨s,H⟩:=σ
 simp only[Region.lexB,Yc]at hB
 have u:=kP (P:=P) (l:=l) (n:=n) (ops:=ops.toArray) (K:=Q .normal) (K0:=Q .normal) (m:=0) (fin:=false) (X:=fun _=>False) (fun k c s H _ _ hB h=>⟨by simpa[Region.lexFrom]using hB,h⟩) (fun e=>by cases e) (fun i j E F p hi z=>by
   have:=oP hs p (by simpa using hi) (by simpa using z)
   simpa using this) ops 0 (Array.replicate ops.toArray.size false) s H C (fun _ _=>Cv _) (fun j _ h=>by simp at h;simp[h]) (by simp) (DC.none _) (by simp) (by simpa using hB.2) (by simpa using h)
 have d:R l n B ⟨s,H⟩ a {w with drawn:=w.drawn+1 }:=by
  obtain⟨m,S,v,A,f,y,g⟩:=x.un
  obtain⟨r,t⟩:=v.drew (w':={w with drawn:=w.drawn+1 }) rfl rfl rfl rfl
  exact R.keep r A f y g t
 refine wp_region_any hm (jN (Q:=Q .normal) (fin:=false) (X:=fun _=>False) (fun G D w' b q=>⟨_,q,b⟩) (fun e=>by cases e) (fun e=>by cases e) _ _ _ a _ (DC.none _) d (by simpa using u))
theorem Zsc{id:Nat}{L:List Oper}{o:Oper}{σ:St}{QQ:Exit→Act→World→Prop}{X:St→Prop}(hm:P.follows .mixedOrders=true)(hB:Region.lexB .any (L++[o]).toArray=true)(J:L.all (fun o=>C1 o||B5 o)=true)(hs:LR (L++[o]) 0 (L++[o])=true)
  (M:∀i,i<L.length→Waits (L++[o]).toArray L.length i) (h:DQ P l n ((L++[o]).map (·.dst)) L X σ) (G:∀σ a w,R l n B σ a w→X σ→wpList P (L++[o]).toArray QQ [o] a w) {a:Act} {w:World} (g:R l n B σ a w):(Code.region id (L++[o]).toArray true).wp P QQ a w:=by
 obtain⟨s,H⟩:=σ
 simp only[Region.lexB,Yc]at hB
 have c:true=true→∀i,i+1<(L++[o]).toArray.size→Waits (L++[o]).toArray ((L++[o]).toArray.size-1) i:=fun _ i hi=>by
  have:=M i (by simpa using hi)
  simpa using this
 have D:=kP (P:=P) (l:=l) (n:=n) (ops:=(L++[o]).toArray) (K:=fun _=>False) (K0:=X) (m:=1) (fin:=true) (X:=X) (fun k b s H U hl hB h=>by
   simp only[Region.lexFrom,Yc]at hB
   have C:k∈Region.ready .any (L++[o]).toArray b:=by simpa using hB.1.1
   refine⟨fun f=>(by rw[f]at C;cases C),fun i hi=>?_⟩
   obtain⟨f,O,d,_⟩:=mem_ready.1 hi
   have y:=hl i f
   have z:i<(L++[o]).toArray.size:=(G4.1 d).1
   unfold Fq
   simp only[d]
   refine .inr (.inr ?_)
   exact And.intro (by first|rfl|trivial) (And.intro (by omega) h)) c (fun i j O V t hi u=>by
   have:=oP hs t (by simpa using hi) (by simpa using u)
   simpa using this) L 0 (Array.replicate (L++[o]).toArray.size false) s H J (fun _ _=>Cv _) (fun j _ h=>by simp at h;simp[h]) (by simp) (DC.none _) (fun j u=>by simp[Yp u]) (by simpa using hB.2) (by simpa using h)
 have p:R l n B ⟨s,H⟩ a {w with drawn:=w.drawn+1 }:=by
  obtain⟨m,S,E,I,q,F,r⟩:=g.un
  obtain⟨y,z⟩:=E.drew (w':={w with drawn:=w.drawn+1 }) rfl rfl rfl rfl
  exact R.keep y I q F r z
 refine wp_region_any hm (jN (Q:=fun _=>False) (fin:=true) (X:=X) (fun W T w' A x=>x.elim) c (fun _ σ a w g hx N v=>?_) _ _ _ a _ (DC.none _) p (by simpa using D))
 have e:N=o:=by simpa using v.symm
 subst e
 exact G σ a w g hx
end
end Go.Eng
