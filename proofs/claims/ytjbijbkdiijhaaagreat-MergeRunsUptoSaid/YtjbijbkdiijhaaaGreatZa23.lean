import Derived.Test.YtjbijbkdiijhaaaGreatZa22
import Derived.Test.YtjbijbkdiijhaaaGreatZa21
import Derived.Sort.Walk0
import Derived.Test.YtjbijbkdiijhaaaGreatZa00
namespace Go.Proofs.YtjbijbkdiijhaaaGreat
set_option linter.all false
open Go Go.Eng
end Go.Proofs.YtjbijbkdiijhaaaGreat
namespace Go.Proofs.YtjbijbkdiijhaaaGreat
set_option linter.all false
open Go Go.Eng
def BV(F:List Fld)(k:Int):Fld×Bool:=C4 F zF fun f=>decide (f.num=k)
def Ba(F:List Fld)(k:Int):Fld:=(BV F k).1
def AP(s:Scm)(n:ByteArray):List Fld:=(C4 s.messages zM fun m=>decide (m.name=n)).1.fields
theorem n61(s:Scm)(n:ByteArray)(h:s.messages.length≤1048576):Vi s n=some (C4 s.messages zM fun m=>decide (m.name=n)):=by
 dsimp only[Vi,fO,wg,lr,cs]
 rw[m84 _ _ h]
 rfl
theorem n74(l:List Fld)(k:Int)(h:l.length≤1048576):Vc l (fun z=>MP z k)=some (BV l k):=by
 have c:=Ew (B:=Sa l fun z=>MP z k) (N:=Am) l (fun f=>decide (f.num=k)) (fun i=>(l.getD i default,true)) () (fun i x hx=>by
  have a:=BI hx
  have d:=(Yd.1 hx).1
  have b:i+1<9223372036854775808:=by omega
  have e:MP x k=some (decide (x.num=k)):=rfl
  dsimp only[Sa,TA,br,ix,wg,vs,AA,ln,Ah,cf,wa,br]
  simp only[a,b,hx,e,Yq,Yt,Ya,Yg,YO]
  cases decide (x.num=k)<;>simp) (by simp[Sa,TA,br,ix,wg,vs,AA,ln,Ah,cf,wa,br]) (A1 (by omega))
 dsimp only[Vc,gg,b6,gv,vz,wg,lr,lc,An]
 unfold BV
 rw[c,P6]
 cases l.findIdx? fun m=>decide (m.num=k)<;>rfl
theorem n43(m:Msg)(k:Int)(h:m.fields.length≤1048576):kw m k=some (BV m.fields k):=by
 dsimp only[kw,eO,wg,lr,cs]
 rw[n74 _ _ h]
 rfl
theorem qq(m:Msg)(k:Int)(h:m.fields.length≤1048576):jW m k=some (BV m.fields k):=by
 have c:=Ew (B:=QL m k) (N:=Am) m.fields (fun f=>decide (f.num=k)) (fun i=>(m.fields.getD i default,true)) () (fun i x hx=>by
  have a:=BI hx
  have d:=(Yd.1 hx).1
  have b:i+1<9223372036854775808:=by omega
  dsimp only[QL,WY,br,ix,vz,wg,vs,AA,ln,Ah,wa,An,br]
  simp only[a,b,hx,Yq,Yt,Ya,Yg,YO]
  cases decide (x.num=k)<;>simp) (by simp[QL,WY,br,ix,vz,wg,vs,AA,ln,Ah,wa,An,br]) (A1 (by omega))
 dsimp only[jW,ns,pJ,p9,wg,lr,lc]
 unfold BV
 rw[c,P6]
 cases m.fields.findIdx? fun f=>decide (f.num=k)<;>rfl
def CW{α:Type}(l:List α)(p:α→Bool):Int:=match l.findIdx? p with
 |some i=>(i:Int)
 |none=>-1
theorem ZK8{α:Type}(l:List α)(p:α→Bool):decide (0≤CW l p)=l.any p:=by
 unfold CW
 rw[←Ow]
 cases l.findIdx? p with
 |none=>rfl
 |some i=>simp
theorem n70(l:List Slt)(f:Slt→Option Bool)(p:Slt→Bool)(d:∀x∈l,f x=some (p x))(h:l.length<4611686018427387904):Vn l f=some (CW l p):=by
 have e:=Ew (B:=RW l f) (N:=Am) l p (fun i=>(i:Int)) () (fun i x hx=>by
  have a:=BI hx
  have g:=(Yd.1 hx).1
  have b:i+1<9223372036854775808:=by omega
  have c:=d x (Yk hx)
  dsimp only[RW,Tg,br,ix,vs,AA,ln,Ah,cf,wa,br]
  simp only[a,b,c,hx,Yq,Yt,Ya]
  cases p x<;>simp) (by simp[RW,Tg,br,ix,vs,AA,ln,Ah,cf,wa,br]) (A1 h)
 dsimp only[Vn,fQ,ga,eX,vz,lr,lc,An]
 rw[e]
 unfold CW
 cases l.findIdx? p<;>rfl
def BZ(l:List Slt)(k:Int):Bool:=l.any fun x=>decide (x.num=k)
theorem n19(v:Val)(k:Int)(h:v.slots.length<4611686018427387904):ki v k=some (BZ v.slots k):=by
 dsimp only[ki,a5,wg,lr,cl,zp,fd,lr,cs]
 rw[n70 v.slots (fun z=>Vb z k) (fun x=>decide (x.num=k)) (fun x _=>rfl) h]
 simp only[Ya]
 rw[ZK8]
 rfl
theorem ZSq{v:Val}{x:Raw}(h:A2 v)(hx:x∈v.raws):x.data.size≤1048576:=by
 have a:=C1 (e:=Av) hx
 unfold A2 at h
 conv at h=>unfold Ag
 simp only[At,bk,Av]at h a
 omega
theorem ZpP{F:List Fld}{k:Int}(h:(BV F k).2=true):(Ba F k).num=k:=by
 unfold Ba BV C4 at*
 cases e:F.find? fun f=>decide (f.num=k)with
 |none=>rw[e]at h;cases h
 |some f=>exact Y0 (p:=f.num=k) (SZ (p:=fun f:Fld=>decide (f.num=k)) e)
abbrev X3:=Scm→Fld→Val→Int→Bool→Option Int
def Ce{α:Type}(f:Nat→α→Int):List α→Nat→Int
 |[],_=>0
 |x::l,i=>if f i x=0 then Ce f l (i+1)else f i x
theorem QT{α:Type}(f:Nat→α→Int):∀(l:List α) (i:Nat),Ce f l i=0↔∀(j:Nat) (x:α),l[j]?=some x→f (i+j) x=0
 |[],i=>by simp[Ce]
 |x::l,i=>by
  unfold Ce
  have a:=QT f l (i+1)
  by_cases h:f i x=0
  ·rw[Yj h,a]
   constructor
   ·intro k j y hy
    cases j with
    |zero=>cases hy;exact h
    |succ j=>have:=k j y hy;rw[show i+(j+1)=i+1+j by omega];exact this
   ·intro k j y hy
    have:=k (j+1) y hy
    rw[show i+(j+1)=i+1+j by omega]at this
    exact this
  ·rw[Ym h]
   exact⟨fun e=>absurd e h,fun k=>k 0 x rfl⟩
theorem PO{α ξ ρ:Type}{B:Nat→Option (Lv Nat ξ ρ)}{N:Nat}(l:List α)(f:Nat→α→Int)(r:Int→ρ)(e:ξ)
  (hs:∀(i:Nat) (x:α),l[i]?=some x→(∀(j:Nat) (y:α),j<i→l[j]?=some y→f j y=0)→B i=some (if f i x=0 then .nx (i+1)else .rt (r (f i x))))
  (he:B l.length=some (.ex e)) (hN:l.length<N):Ak B N 0=some (if Ce f l 0=0 then .inl e else .inr (r (Ce f l 0))):=by
 suffices H:∀k i N,i+k=l.length→(∀(j:Nat) (y:α),j<i→l[j]?=some y→f j y=0)→k<N→Ak B N i=some (if Ce f (l.drop i) i=0 then .inl e else .inr (r (Ce f (l.drop i) i)))by
  have:=H l.length 0 N (by omega) (fun j y c=>absurd c (by omega)) hN
  rwa [Ma]at this
 intro k
 induction k with
 |zero=>
  intro i N hi _ hN
  obtain⟨N,rfl⟩:∃m,N=m+1:=⟨N-1,by omega⟩
  have:i=l.length:=by omega
  subst this
  rw[Ak,he,SY]
  rfl
 |succ k d=>
  intro i N hi b hN
  obtain⟨N,rfl⟩:∃m,N=m+1:=⟨N-1,by omega⟩
  have a:i<l.length:=by omega
  rw[Ak,hs i l[i] (Ye a) b,HH a,Ce]
  by_cases h:f i l[i]=0
  ·rw[Yj h,Yj h]
   refine d (i+1) N (by omega) (fun j y c hy=>?_) (by omega)
   by_cases e:j=i
   ·subst e
    rw[Ye a]at hy
    cases hy
    exact h
   ·exact b j y (by omega) hy
  ·rw[Ym h,Ym h,Ym h]
def CK(v:Val):Bool:=decide ((v.kind≠11∧0<v.list.length)∨(v.kind≠12∧0<v.pairs.length)∨(v.kind≠10∧(0<v.slots.length∨0<v.raws.length))∨(v.text≠⟨#[]⟩∧¬(v.kind=7∨v.kind=8))∨(v.bits≠0∧(v.kind=7∨v.kind=8∨v.kind=10∨v.kind=11∨v.kind=12)))
def Cw(x:ByteArray)(p:Nat)(lo hi:Nat):Bool:=decide (p<x.size)&&decide (lo≤(x.get! p).toNat)&&decide ((x.get! p).toNat≤hi)
def CF(x:ByteArray)(p:Nat):Nat:=
 let b:=(x.get! p).toNat
 if b<0x80 then 1
 else if 0xc2≤b∧b≤0xdf∧Cw x (p+1) 0x80 0xbf=true then 2
 else if b=0xe0∧Cw x (p+1) 0xa0 0xbf=true∧Cw x (p+2) 0x80 0xbf=true then 3
 else if b=0xed∧Cw x (p+1) 0x80 0x9f=true∧Cw x (p+2) 0x80 0xbf=true then 3
 else if 0xe1≤b∧b≤0xef∧b≠0xed∧Cw x (p+1) 0x80 0xbf=true∧Cw x (p+2) 0x80 0xbf=true then 3
 else if b=0xf0∧Cw x (p+1) 0x90 0xbf=true∧Cw x (p+2) 0x80 0xbf=true∧Cw x (p+3) 0x80 0xbf=true then 4
 else if 0xf1≤b∧b≤0xf3∧Cw x (p+1) 0x80 0xbf=true∧Cw x (p+2) 0x80 0xbf=true∧Cw x (p+3) 0x80 0xbf=true then 4
 else if b=0xf4∧Cw x (p+1) 0x80 0x8f=true∧Cw x (p+2) 0x80 0xbf=true∧Cw x (p+3) 0x80 0xbf=true then 4
 else 0
def F9(x:ByteArray):Nat→Nat→Bool
 |0,_=>true
 |n+1,p=>if p<x.size then(if CF x p=0 then false else F9 x n (p+CF x p))else true
def KE(x:ByteArray):Bool:=F9 x (x.size+1) 0
def Uc(n b:Int):Bool:=if n=1 then decide (b≤1)else if n=2 then decide (-2147483648≤IntKind.i64.wrap b∧IntKind.i64.wrap b≤2147483647)else if n=4 then decide (b≤4294967295)else if n=9 then decide (b≤2147483647)else true
def Mm(v:Val):Bool:=decide (v.list.length=0∧v.pairs.length=0∧v.slots.length=0∧v.raws.length=0)
def O0(n:Int):Bool:=decide (n=7∨n=8)
def Jf(n:Int)(v:Val):Bool:=decide (1≤n∧n≤9∧v.kind=n)&&Mm v&&(if O0 n then decide (v.bits=0∧v.text.size≤4096)&&(decide (n=8)||KE v.text)else decide (v.text=⟨#[]⟩)&&Uc n v.bits)
def EM(n:Int)(v:Val):Int:=if v.kind≠n∨CK v=true then 12 else if 4096<v.text.size then 3 else if Jf n v=true then 0 else if n=7 then 7 else 12
def zE:Enm:=.mk ⟨#[]⟩ false [] [] []
def A8(s:Scm)(n:ByteArray):Msg×Bool:=C4 s.messages zM fun m=>decide (m.name=n)
def Dg(s:Scm)(n:ByteArray):Enm×Bool:=C4 s.enums zE fun e=>decide (e.name=n)
def LN(e:Enm)(b:Int):Bool:=e.items.any fun x=>decide (IntKind.u64.wrap x.num=b)
def DR(R:Msg→Val→Int)(s:Scm)(t:Typ)(v:Val):Int:=
 if t.kind=10 then(if(A8 s t.name).2=true then R (A8 s t.name).1 v else 10)
 else if t.kind<1∨9<t.kind then 12
 else if EM t.kind v≠0∨t.kind≠9 then EM t.kind v
 else if(Dg s t.name).2=false then 10
 else if(Dg s t.name).1.opn=false∧LN (Dg s t.name).1 v.bits=false then 16 else 0
def KD(a b:Val):Bool:=decide (a.bits=b.bits)&&decide (a.text=b.text)
def Mq(E:Val→Int)(key:Int)(k:Bool)(l:List Pr)(i:Nat)(p:Pr):Int:=
 if EM key p.key≠0 then EM key p.key else if k=true∧((l.take i).any fun q=>KD q.key p.key)=true then 9 else E p.val
def Cf(R:Msg→Val→Int)(s:Scm)(k:Bool)(f:Fld)(v:Val):Int:=
 if f.card=4 then(if v.kind≠11∨CK v=true then 12 else Ce (fun _ x=>DR R s f.type x) v.list 0)
 else if f.card=5 then(if v.kind≠12∨CK v=true then 12 else Ce (Mq (DR R s f.type) f.key k v.pairs) v.pairs 0)
 else DR R s f.type v
def KU(F:List Fld)(l:List Slt)(u:ByteArray):Bool:=!decide (u=⟨#[]⟩)&&l.any fun y=>decide ((Ba F y.num).union=u)
def FW(R:Fld→Val→Int)(F:List Fld)(l:List Slt)(i:Nat)(x:Slt):Int:=
 if(BV F x.num).2=false then 8 else if BZ (l.take i) x.num=true then 9 else if KU F (l.take i) (Ba F x.num).union=true then 15 else R (Ba F x.num) x.val
def Iy(l:List Slt)(f:Fld):Int:=if f.card=1∧BZ l f.num=false then 14 else 0
def xP(s:Scm)(f:Fld)(x:Raw):Bool:=decide (f.type.kind=9)&&(Dg s f.type.name).2&&!(Dg s f.type.name).1.opn&&!decide (f.card=5)&&decide (x.wire=0)&&decide (x.bits<2147483648)&&!LN (Dg s f.type.name).1 x.bits
def Kq(s:Scm)(F:List Fld)(x:Raw):Int:=
 if x.num<1∨65535<x.num∨x.wire<0∨6<x.wire∨(x.wire≤2∧x.data≠⟨#[]⟩)∨(2<x.wire∧x.bits≠0)then 1
 else if(BV F x.num).2=true∧xP s (Ba F x.num) x=false then 1
 else if(x.wire=3∧4096<x.data.size)∨65536<x.data.size then 3 else 0
def Bf(s:Scm)(k:Bool):Nat→Msg→Val→Int
 |0,_,v=>if v.kind≠10∨CK v=true then 12 else 17
 |d+1,m,v=>
  if v.kind≠10∨CK v=true then 12
  else if Ce (FW (Cf (Bf s k d) s k) m.fields v.slots) v.slots 0≠0 then Ce (FW (Cf (Bf s k d) s k) m.fields v.slots) v.slots 0
  else if Ce (fun _ f=>Iy v.slots f) m.fields 0≠0 then Ce (fun _ f=>Iy v.slots f) m.fields 0
  else Ce (fun _ x=>Kq s m.fields x) v.raws 0
mutual
def cnt:Val→Nat
 |.mk _ _ _ l p s r=>1+r.length+Bq l+BO p+B9 s
def Bq:List Val→Nat
 |[]=>0
 |v::l=>cnt v+Bq l
def NJ:Pr→Nat
 |.mk k v=>cnt k+cnt v
def BO:List Pr→Nat
 |[]=>0
 |p::l=>NJ p+BO l
def NZ:Slt→Nat
 |.mk _ v=>cnt v
def B9:List Slt→Nat
 |[]=>0
 |x::l=>NZ x+B9 l
end
def KW(s:Scm)(k:Bool)(n:ByteArray)(v:Val):Int:=
 if(A8 s n).2=false then 10 else if Bf s k 16 (A8 s n).1 v≠0 then Bf s k 16 (A8 s n).1 v else if 4096<cnt v then 3 else 0
theorem sZ(x:ByteArray)(p:Nat):x.data.toList.getD p 0=x.get! p:=by
 cases x with
 |mk d=>
  show d.toList.getD p 0=d.getD p 0
  rw[Yg,YC,Yy]
theorem Zmx(x:ByteArray)(i:Nat)(lo hi:Nat)(h:x.size≤1048576):MH x (i:Int) (lo:Int) (hi:Int)=some (Cw x i lo hi):=by
 have w:x.size<4611686018427387904:=by omega
 dsimp only[MH,Ww,vz,lr,Bz,Gc]
 simp only[w,Yt,YS,sZ]
 have a:∀b c:Bool,(b=true→decide ((i:Int)<x.size)=true)→(if(b=true→(0:Int)≤i∧(i:Int)<x.size)then(some c)else none)=some c:=fun b c d=>by
  rw[Yj]
  intro h
  have:=d h
  simp only[YE]at this
  omega
 rw[a _ _ (fun h=>by rw[Yb]at h;exact h.1),a _ _ (fun h=>h)]
 unfold Cw
 congr 1
 rw[aI]
 simp only[Yb,YE]
 omega
theorem rR(x:ByteArray)(i n:Nat)(h:x.size≤1048576)(hi:i≤2097152)(p:n≤9):K1 x (i:Int) (n:Int)=some ((List.range n).all fun k=>Cw x (i+k) 128 191):=by
 have o:=Ew (B:=Lt x (i:Int) (n:Int)) (N:=Am) (List.range n) (fun k=>!Cw x (i+k) 128 191) (fun _=>false) () (fun k y a=>by
  have b:=(Yd.1 a).1
  rw[aw]at b
  have hy:y=k:=by rw[List.getElem?_range b]at a;cases a;rfl
  subst hy
  have e:=Zmx x (i+y) 128 191 h
  rw[Int.natCast_add]at e
  have d:(y:Int)<n:=by omega
  have f:y+1<9223372036854775808:=by omega
  have g: -9223372036854775808≤(i:Int)+y∧(i:Int)+y<9223372036854775808:=by omega
  dsimp only[Lt,QY,br,vs,AA,ln,Ah,cl,wa,wi,br]
  simp only[d,f,g,Yq,Yt,Co]
  rw[show((128:Int))=((128:Nat):Int)from rfl,show((191:Int))=((191:Nat):Int)from rfl,e,Ya]
  cases Cw x (i+y) 128 191<;>rfl) (by rw[aw];dsimp only[Lt,QY,br,vs,AA,ln,Ah,cl,wa,wi,br];simp) (by rw[aw];exact A1 (by omega))
 dsimp only[K1,WP,WQ,Xa,lr,lc]
 rw[o]
 cases c:(List.range n).findIdx? fun k=>!Cw x (i+k) 128 191 with
 |none=>
  have:=L7.1 c
  have e:((List.range n).all fun k=>Cw x (i+k) 128 191)=true:=Yu.2 fun k a=>by simpa using this k a
  rw[e]
  rfl
 |some j=>
  obtain⟨l,m,_⟩:=Kn.1 c
  have e:((List.range n).all fun k=>Cw x (i+k) 128 191)=false:=by
   rw[List.all_eq_false]
   exact⟨_,Gh l,by simpa using m⟩
  rw[e]
  rfl
theorem I2{c:Prop}[Decidable c]{b:Bool}(n:Nat)(h:b=true↔c){x:Option Int}{m:Nat}(k:x=some (m:Int)):(if b=true then some (n:Int)else x)=some ((if c then n else m:Nat):Int):=by
 by_cases a:c
 ·rw[Yj (h.2 a),Yj a]
 ·rw[Ym (fun e=>a (h.1 e)),Ym a,k]
theorem ZLY(x:ByteArray)(p:Nat)(q:p<x.size)(h:x.size≤1048576):Pw x (p:Int)=some (CF x p:Int):=by
 have t1:∀n:Nat,n≤9→K1 x ((p:Int)+1) (n:Int)=_:=fun n d=>rR x (p+1) n h (by omega) d
 have t2:∀n:Nat,n≤9→K1 x ((p:Int)+2) (n:Int)=_:=fun n d=>rR x (p+2) n h (by omega) d
 have a:∀lo hi:Nat,MH x ((p:Int)+1) lo hi=_:=fun lo hi=>Zmx x (p+1) lo hi h
 have a1:=t1 1 (by omega)
 have b:=t1 2 (by omega)
 have a3:=t1 3 (by omega)
 have a4:=t2 1 (by omega)
 have c:=t2 2 (by omega)
 have e:=a 160 191
 have g:=a 128 159
 have i:=a 144 191
 have j:=a 128 143
 have w0:(0:Int)≤p∧(p:Int)<x.size:=by omega
 have o: -9223372036854775808≤(p:Int)+1∧(p:Int)+1<9223372036854775808:=by omega
 have w2: -9223372036854775808≤(p:Int)+2∧(p:Int)+2<9223372036854775808:=by omega
 have k:∀f:Nat→Bool,(List.range 1).all f=f 0:=fun f=>by simp[aJ]
 have l:∀f:Nat→Bool,(List.range 2).all f=(f 0&&f 1):=fun f=>by simp[aJ]
 have m:∀f:Nat→Bool,(List.range 3).all f=(f 0&&(f 1&&f 2)):=fun f=>by simp[aJ,Bool.and_assoc]
 rw[k]at a1 a4
 rw[l]at b c
 rw[m]at a3
 simp only[G3,YI,Nat.reduceAdd,Int.cast_ofNat_Int]at a1 b a3 a4 c e g i j
 dsimp only[Pw,W8,br,vg,lr,AO,wi,br,Sc]
 simp only[w0,o,w2,Co,Yt,YS,sZ,a1,b,a3,a4,c,e,g,i,j,Fx,YO,D2]
 unfold CF
 refine I2 1 (by simp only[YE];omega) ?_
 refine I2 2 (by simp only[Yb,YE];grind) ?_
 refine I2 3 (by simp only[Yb,YE];grind) ?_
 refine I2 3 (by simp only[Yb,YE];grind) ?_
 refine I2 3 (by simp only[Yb,YJ,YE,YQ];grind) ?_
 refine I2 4 (by simp only[Yb,YE];grind) ?_
 refine I2 4 (by simp only[Yb,YE];grind) ?_
 refine I2 4 (by simp only[Yb,YE];grind) ?_
 rfl
theorem ZO3(x:ByteArray)(p:Nat):CF x p≤4:=by
 unfold CF
 dsimp only
 repeat' (first|split|omega)
theorem ZEf(x:ByteArray):∀(k p n m:Nat),x.size-p=k→x.size-p<n→x.size-p<m→F9 x n p=F9 x m p:=by
 intro k
 induction k using Nat.strongRecOn with
 |_ k c=>
  intro p n m d e hm
  obtain⟨n,rfl⟩:∃j,n=j+1:=⟨n-1,by omega⟩
  obtain⟨m,rfl⟩:∃j,m=j+1:=⟨m-1,by omega⟩
  unfold F9
  by_cases a:p<x.size
  ·rw[Yj a,Yj a]
   by_cases b:CF x p=0
   ·rw[Yj b,Yj b]
   ·rw[Ym b,Ym b]
    exact c (x.size-(p+CF x p)) (by omega) _ _ _ rfl (by omega) (by omega)
  ·rw[Ym a,Ym a]
def KS(x:ByteArray)(p:Nat):Bool:=F9 x (x.size+1-p) p
theorem ZBa{x:ByteArray}{p:Nat}(h:x.size≤p):KS x p=true:=by
 unfold KS
 cases x.size+1-p with
 |zero=>rfl
 |succ n=>unfold F9;rw[Ym (by omega)]
theorem ZwM{x:ByteArray}{p:Nat}(h:p<x.size):KS x p=if CF x p=0 then false else KS x (p+CF x p):=by
 unfold KS
 obtain⟨n,e⟩:∃n,x.size+1-p=n+1:=⟨x.size-p,by omega⟩
 rw[e]
 conv=>lhs;unfold F9
 rw[Yj h]
 by_cases a:CF x p=0
 ·rw[Yj a,Yj a]
 ·rw[Ym a,Ym a]
  by_cases b:p+CF x p<x.size
  ·exact ZEf x _ _ _ _ rfl (by omega) (by omega)
  ·have c:F9 x n (p+CF x p)=true:=by
    cases n with
    |zero=>rfl
    |succ n=>unfold F9;rw[Ym b]
   have d:F9 x (x.size+1-(p+CF x p)) (p+CF x p)=true:=by
    cases x.size+1-(p+CF x p)with
    |zero=>rfl
    |succ n=>unfold F9;rw[Ym b]
   rw[c,d]
theorem ZOT(x:ByteArray):KE x=KS x 0:=rfl
theorem ZrI(x:ByteArray)(h:x.size≤1048576):MG x=some (KE x):=by
 have q:Ok (Sum.elim (fun _=>KE x=true) (fun r:Int=>0≤r∧KE x=false)) (Ak (Nc x) Am 0):=by
  refine BD (fun v:Int=>0≤v∧KE x=KS x v.toNat) (fun v:Int=>x.size-v.toNat) ⟨by omega,ZOT x⟩ (A1 (by omega)) fun v c=>?_
  obtain⟨v,rfl⟩:∃n:Nat,v=n:=⟨v.toNat,by omega⟩
  obtain⟨_,c⟩:=c
  rw[YS]at c
  have w:x.size<4611686018427387904:=by omega
  dsimp only[Nc,WG,br,vz,vs,AA,ln,Ah,cl,wi,Bz,br]
  by_cases g:v<x.size
  ·have d:(v:Int)<x.size:=by omega
   have hs:=ZO3 x v
   have b:=ZwM g
   simp only[w,Yt,d,Yq,ZLY x v g h,Ya]
   by_cases f:CF x v=0
   ·rw[Yj f]at b
    simp only[f,Int.ofNat_zero,Int.cast_ofNat_Int,Yq,Yt]
    exact⟨_,rfl,by omega,by rw[c,b]⟩
   ·rw[Ym f]at b
    have j:¬((CF x v:Int)=0):=by omega
    have k: -9223372036854775808≤(v:Int)+CF x v∧(v:Int)+CF x v<9223372036854775808:=by omega
    simp only[j,YT,Yo,YP,k,Co,Yt]
    refine⟨_,rfl,⟨by omega,?_⟩,?_⟩
    ·rw[c,b,show((v:Int)+CF x v).toNat=v+CF x v by omega]
    ·show x.size-((v:Int)+CF x v).toNat<x.size-(v:Int).toNat
     omega
  ·have d:¬(v:Int)<x.size:=by omega
   simp only[w,Yt,d,YT,Yo,YP]
   exact⟨_,rfl,by rw[c,ZBa (by omega)]⟩
 obtain⟨y,e,a⟩:=q
 dsimp only[MG,TE,lr,cl,U8,Xk,WW,Xb,lr,lc]
 rw[e]
 cases y with
 |inl y=>
  have a:KE x=true:=a
  rw[a]
  rfl
 |inr r=>
  obtain⟨a1,i⟩:=a
  rw[i]
  simp only[Ya,Sum.elim_inr]
  rw[show decide (r<0)=false by simpa using a1]
def Z5(c:Nat)(x:Val):Prop:=∀a,c≤a→Ok (fun b=>b=true) (KZ a x x)
theorem Z5.mono{c d:Nat}{x:Val}(h:Z5 c x)(k:c≤d):Z5 d x:=fun a b=>h a (D4 k b)
theorem M1{n:Nat}(h:n<18446744073709551616):IntKind.u64.wrap (n:Int)=n:=by
 unfold IntKind.wrap
 have:(IntKind.u64.bits)=64:=rfl
 simp only[this,show IntKind.u64.signed=false from rfl,Et,Yo,YP]
 omega
theorem Ni(n:Nat):BitVec.ofInt 64 (n:Int)=BitVec.ofNat 64 n:=BitVec.ofInt_natCast ..
theorem kZ{n m:Nat}(a:n<18446744073709551616)(hm:m<18446744073709551616):Dh .u64 (n:Int) (m:Int)=((n&&&m:Nat):Int):=by
 unfold Dh
 have h:(BitVec.ofInt 64 (n:Int)&&&BitVec.ofInt 64 (m:Int)).toNat=n&&&m:=by
  rw[Ni,Ni,BitVec.toNat_and,Oy,Oy,Kf a,Kf hm]
 show IntKind.u64.wrap (((BitVec.ofInt 64 (n:Int)&&&BitVec.ofInt 64 (m:Int)).toNat:Nat):Int)=_
 rw[h]
 exact M1 (Nat.lt_of_le_of_lt Nat.and_le_left a)
theorem ZHN{n m:Nat}(a:n<18446744073709551616)(hm:m<18446744073709551616):GS .u64 (n:Int) (m:Int)=((n|||m:Nat):Int):=by
 unfold GS
 have h:(BitVec.ofInt 64 (n:Int)|||BitVec.ofInt 64 (m:Int)).toNat=n|||m:=by
  rw[Ni,Ni,BitVec.toNat_or,Oy,Oy,Kf a,Kf hm]
 show IntKind.u64.wrap (((BitVec.ofInt 64 (n:Int)|||BitVec.ofInt 64 (m:Int)).toNat:Nat):Int)=_
 rw[h]
 exact M1 (Nat.or_lt_two_pow (n:=64) a hm)
theorem ZzM{n:Nat}(a:n<18446744073709551616):Jq .u64 (n:Int)=((18446744073709551615-n:Nat):Int):=by
 unfold Jq Md
 have e:(if IntKind.u64.signed=true then(-1:Int)else IntKind.u64.max)=((18446744073709551615:Nat):Int):=rfl
 rw[e]
 have h:(BitVec.ofInt 64 ((18446744073709551615:Nat):Int)^^^BitVec.ofInt 64 (n:Int)).toNat=18446744073709551615-n:=by
  rw[Ni,Ni,show BitVec.ofNat 64 18446744073709551615=BitVec.allOnes 64 from rfl,BitVec.allOnes_xor,BitVec.toNat_not,Oy,Kf a]
 show IntKind.u64.wrap (((BitVec.ofInt 64 ((18446744073709551615:Nat):Int)^^^BitVec.ofInt 64 (n:Int)).toNat:Nat):Int)=_
 rw[h]
 exact M1 (by omega)
theorem ZE0(n:Nat):n&&&9218868437227405312=(n/4503599627370496%2048)*4503599627370496:=by
 have e:(9218868437227405312:Nat)=2047<<<52:=rfl
 have a:n/4503599627370496%2048*4503599627370496=((n>>>52)%2^11)<<<52:=by
  rw[Nat.shiftLeft_eq,Nat.shiftRight_eq_div_pow]
 rw[e,a]
 apply Nat.eq_of_testBit_eq
 intro i
 have b:(2047:Nat)=2^11-1:=rfl
 rw[Nat.testBit_and,rL,rL,Nat.testBit_mod_two_pow,Nat.testBit_shiftRight,b,Nat.testBit_two_pow_sub_one]
 by_cases h:52≤i
 ·rw[show 52+(i-52)=i by omega]
  simp only[h,Yq,Eu]
  rw[Bool.and_comm]
 ·simp[h]
theorem ZzR(n:Nat):n&&&4503599627370495=n%4503599627370496:=Nat.and_two_pow_sub_one_eq_mod n 52
theorem ZBA{n:Nat}(b:n<18446744073709551616):n&&&9223372036854775808=if 9223372036854775808≤n then 9223372036854775808 else 0:=by
 have e:(9223372036854775808:Nat)=2^63:=rfl
 have k:n.testBit 63=decide (9223372036854775808≤n):=by
  rw[Nat.testBit_eq_decide_div_mod_eq,decide_eq_decide]
  omega
 apply Nat.eq_of_testBit_eq
 intro i
 rw[Nat.testBit_and]
 by_cases hi:63=i
 ·subst hi
  rw[k]
  by_cases h:9223372036854775808≤n
  ·simp[h]
  ·simp[h]
 ·have a:Nat.testBit 9223372036854775808 i=false:=by
   rw[e,Nat.testBit_two_pow]
   exact Ys hi
  rw[a,Kg]
  split
  ·exact a.symm
  ·simp
def HP(n:Nat):Bool:=decide (9218868437227405312<n%9223372036854775808)
theorem ZUZ{n:Nat}(e:n<18446744073709551616):Ok (fun y:Int=>decide (y=0)=HP n) (kn (n:Int)):=by
 have a:=kZ e (m:=9218868437227405312) (by omega)
 have b:=kZ e (m:=4503599627370495) (by omega)
 rw[ZE0]at a
 rw[ZzR]at b
 have a:Dh .u64 (n:Int) 9218868437227405312=_:=a
 have b:Dh .u64 (n:Int) 4503599627370495=_:=b
 dsimp only[kn,pL,br,vz,lr,br]
 rw[a,b]
 unfold HP
 have f:(((n/4503599627370496%2048*4503599627370496:Nat):Int)=9218868437227405312)↔n/4503599627370496%2048=2047:=by omega
 have g:(((n%4503599627370496:Nat):Int)=0)↔n%4503599627370496=0:=by omega
 have h:9218868437227405312<n%9223372036854775808↔n/4503599627370496%2048=2047∧n%4503599627370496≠0:=by omega
 simp only[f,g,h]
 by_cases c:n/4503599627370496%2048=2047
 ·by_cases d:n%4503599627370496=0
  ·simp only[c,d];exact AL (by decide)
  ·simp only[c,d];exact AL (by simp[d])
 ·have i:decide (n/4503599627370496%2048=2047)=false:=Ys c
  simp only[i,c,Et,OP,YT,Yo,YP]
  refine AR (fun _=>AL (by decide)) fun _=>AR (fun _=>AL (by decide)) fun _=>AL (by decide)
theorem yd{n:Nat}(b:n<18446744073709551616):Ok (fun y:Int=>decide (y=0)=HP n) (Pt (n:Int)):=by
 have e:Jm .u64 (n:Int) 9223372036854775808=((n%9223372036854775808:Nat):Int):=by
  unfold Jm
  rw[Int.tmod_eq_emod_of_nonneg (by omega)]
  omega
 dsimp only[Pt,Wv,br,lr,br,rem]
 rw[e]
 unfold HP
 have g:(9218868437227405312:Int)<((n%9223372036854775808:Nat):Int)↔9218868437227405312<n%9223372036854775808:=by omega
 simp only[g]
 by_cases h:9218868437227405312<n%9223372036854775808
 ·simp only[h];first|exact AL (by decide)|simp
 ·have a:decide (9218868437227405312<n%9223372036854775808)=false:=Ys h
  simp only[a,Yo,YP]
  first
   |refine AR (fun _=>AL (by decide)) fun _=>AR (fun _=>AL (by decide)) fun _=>AR (fun _=>AL (by decide)) fun _=>AL (by decide)
   |simp
def GU(n:Nat):Nat:=if HP n=true then 18446744073709551615 else if 9223372036854775808≤n then 18446744073709551615-n else n+9223372036854775808
theorem x4{n:Nat}(a:n<18446744073709551616):km (n:Int)=some (GU n:Int):=by
 obtain⟨y,e,h⟩:=ZUZ a
 have c:=kZ a (m:=9223372036854775808) (by omega)
 rw[ZBA a]at c
 have c:Dh .u64 (n:Int) 9223372036854775808=_:=c
 have d:=ZzM a
 have f:GS .u64 (n:Int) 9223372036854775808=((n|||9223372036854775808:Nat):Int):=ZHN a (m:=9223372036854775808) (by omega)
 dsimp only[km,mr,br,vz,lr,cl,br]
 rw[e,Ya,h,c,d,f]
 unfold GU
 cases HP n with
 |true=>rfl
 |false=>
  by_cases hs:9223372036854775808≤n
  ·simp[hs]
  ·have g:n|||9223372036854775808=n+9223372036854775808:=by
    have j:=Nat.two_pow_add_eq_or_of_lt (i:=63) (b:=n) (by omega) 1
    rw[Nat.or_comm]
    have k:9223372036854775808+n=9223372036854775808|||n:=j
    exact k.symm.trans (OC _ _)
   simp[hs,g]
theorem yX{v:Val}{n:Nat}(i:n<18446744073709551616)(g:v.bits=(n:Int)):jD v=some (if v.kind=2∨v.kind=3 then IntKind.u64.wrap ((n:Int)+9223372036854775808)else if v.kind=6 then(GU n:Int)else(n:Int)):=by
 obtain⟨y,e,h⟩:=yd i
 dsimp only[jD,nW,kP,br,vz,wg,lr,cl,br,zb,oW,lr]
 rw[g]
 by_cases a:v.kind=2∨v.kind=3
 ·have b:(decide (v.kind=2)||decide (v.kind=3))=true:=by simpa using a
  simp only[b,a,Yt]
  rfl
 ·have b:(decide (v.kind=2)||decide (v.kind=3))=false:=by simpa using a
  simp only[b,a,Yo,YP]
  by_cases f:v.kind=6
  ·have j:=M1 (n:=18446744073709551615-n) (by omega)
   simp only[f,Yq,Y2,Yo,YP,e,Ya,h]
   unfold GU
   cases HP n with
   |true=>rfl
   |false=>
    by_cases hs:9223372036854775808≤n
    ·have c:(9223372036854775808:Int)≤(n:Int):=by omega
     have d:(18446744073709551615:Int)-(n:Int)=((18446744073709551615-n:Nat):Int):=by omega
     simp[hs,c,d,j]
    ·have c:¬(9223372036854775808:Int)≤(n:Int):=by omega
     have d:(n:Int)+9223372036854775808=((n+9223372036854775808:Nat):Int):=by omega
     have w2:=M1 (n:=n+9223372036854775808) (by omega)
     simp only[hs,c,d,w2,YT,Yo,YP,Yt]
  ·simp[f]
def BS(a b:Int):Int:=if a<b then -1 else if b<a then 1 else 0
theorem Uo(a b:Int):ka a b=some (BS a b):=by
 dsimp only[ka,gO,br,lr,cl,br,zo,eo,lr]
 unfold BS
 by_cases h:a<b
 ·simp[h]
 ·by_cases c:b<a<;>simp[h,c]
theorem ye(a b:Int):kc a b=some (BS a b):=by
 dsimp only[kc,oo,br,lr,cl,br,zj,mG,lr]
 unfold BS
 by_cases h:a<b
 ·simp[h]
 ·by_cases c:b<a<;>simp[h,c]
theorem ZU2(a b:Int):jm a b=some (BS a b):=by
 dsimp only[jm,mW,br,lr,br]
 unfold BS
 by_cases h:a<b
 ·simp[h]
 ·by_cases c:b<a<;>simp[h,c]
def EQ(a b:ByteArray):Int:=if BL a b=true then -1 else if a=b then 0 else 1
theorem wv(a b:ByteArray):decide (EQ a b=0)=decide (a=b):=by
 unfold EQ
 by_cases h:a=b
 ·subst h
  have:BL a a=false:=by
   unfold BL
   rw[Go.Proofs.bytesLess_eq]
   exact Ys (List.lt_irrefl _)
  simp[this]
 ·cases BL a b<;>simp[h]
theorem ZVG(a b:ByteArray):kb a b=some (EQ a b):=by
 dsimp only[kb,n6,br,lr,cl,br,zk,nA,lr]
 unfold EQ
 cases h:BL a b with
 |true=>simp
 |false=>by_cases c:a=b<;>simp[c]
theorem yi{α ρ:Type}{B:Int×Int×List α→Option (Lv (Int×Int×List α) (Int×List α) ρ)}(l:List α)(p:α→Bool)
  (s:∀(i j:Nat) (r:List α) x,i≤j→r.length=l.length→r[j]?=some x→l[j]?=some x→B ((i:Int),(j:Int),r)=some (.nx (if p x then((i:Int),((j+1:Nat):Int),r)else(((i+1:Nat):Int),((j+1:Nat):Int),r.set i x))))
  (t:∀(i:Nat) r,B ((i:Int),(l.length:Int),r)=some (.ex ((i:Int),r))):
  ∀(k N i j:Nat) (r:List α),j+k=l.length→k<N→i≤j→r.length=l.length→r.take i=(l.take j).filter (fun x=>!p x)→i=((l.take j).filter fun x=>!p x).length→r.drop j=l.drop j→
  ∃(n:Nat) (o:List α),Ak B N ((i:Int),(j:Int),r)=some (.inl ((n:Int),o))∧o.take n=l.filter (fun x=>!p x)∧n=(l.filter fun x=>!p x).length∧o.length=l.length:=by
 intro k
 induction k with
 |zero=>
  intro N i j r u hN b c d hi e
  obtain⟨N,rfl⟩:∃m,N=m+1:=⟨N-1,by omega⟩
  have:j=l.length:=by omega
  subst this
  rw[L6]at d hi
  exact⟨i,r,by rw[Ak,t],d,hi,c⟩
 |succ k q=>
  intro N i j r u hN b c d hi e
  obtain⟨N,rfl⟩:∃m,N=m+1:=⟨N-1,by omega⟩
  have a:j<l.length:=by omega
  have hl:l[j]?=some l[j]:=Ye a
  have h:r[j]?=some l[j]:=by
   have:=congrArg (fun z=>z[0]?) e
   simpa[YZ,a]using this
  have e0:l.take (j+1)=l.take j++[l[j]]:=Y5 a
  rw[Ak,s i j r l[j] b c h hl]
  cases f:p l[j]with
  |true=>
   refine q N i (j+1) r (by omega) (by omega) (by omega) c ?_ ?_ ?_
   ·rw[e0,HF,d];simp[f]
   ·rw[e0,HF];simpa[f]using hi
   ·have:=congrArg (List.drop 1) e
    simpa[OM]using this
  |false=>
   have g:i<r.length:=by omega
   refine q N (i+1) (j+1) (r.set i l[j]) (by omega) (by omega) (by omega) (by rw[OL];exact c) ?_ ?_ ?_
   ·rw[e0,HF,←d,Y5 (by rw[OL];exact g),List.take_set_of_le (Yf _),rD]
    simp[f]
   ·rw[e0,HF,Yp,←hi]
    simp[f]
   ·rw[List.drop_set_of_lt (by omega)]
    have:=congrArg (List.drop 1) e
    simpa[OM]using this
theorem wU(l:List Slt)(f:Slt→Option Bool)(p:Slt→Bool)(d:∀x∈l,f x=some (p x))(h:l.length<4611686018427387904):Ps l f=some (CW l p):=by
 unfold Ps
 simp only[Qf,PX,PZ,Qa,al,Fm,DX,br,ix,CE,vz,vy,vw,vs,vg,v2,lr,AA,ln,Ah,lc,lf,Ej,ap,aq,a0,a1,ad,cl,cs,cf,wa,wi,ir,ca,cp,dd,mv,st,ss,sL,Bd.c,Bd.vl,sR,AH]
 rw[Ew l p (fun i=>(i:Int)) () (hN:=A1 h) (he:=by simp[Wj,Qf,PX,PZ,Qa,al,Fm,DX,br,ix,CE,vz,vy,vw,vs,vg,v2,lr,AA,ln,Ah,lc,lf,Ej,ap,aq,a0,a1,ad,cl,cs,cf,wa,wi,ir,ca,cp,dd,mv,st,ss,sL,Bd.c,Bd.vl,sR,AH]) (hs:=by
  intro i y hy
  obtain⟨a,rfl⟩:=Yd.1 hy
  have b:i+1<9223372036854775808:=by omega
  have c:=d l[i] (Yk hy)
  simp[Wj,Qf,PX,PZ,Qa,al,Fm,DX,br,ix,CE,vz,vy,vw,vs,vg,v2,lr,AA,ln,Ah,lc,lf,Ej,ap,aq,a0,a1,ad,cl,cs,cf,wa,wi,ir,ca,cp,dd,mv,st,ss,sL,Bd.c,Bd.vl,sR,AH,a,b,c]
  cases p l[i]<;>rfl)]
 unfold CW
 cases l.findIdx? _<;>rfl
theorem n41(l:List Slt)(f:Slt→Option Bool)(p:Slt→Bool)(g:∀x∈l,f x=some (p x))(h:l.length<549755813888):Pq l f=some (l.filter fun x=>!p x):=by
 have e0:=wU l f p g (by omega)
 unfold Pq
 dsimp only[dq,gA,vw,vs,vg,vz,cs,br,lr,lf,lc,wi]
 rw[e0,Ya]
 cases hi:l.findIdx? p with
 |none=>
  rw[show CW l p= -1 from by unfold CW;rw[hi]]
  rw[show l.filter (fun x=>!p x)=l from S4.2 fun x hx=>by rw[L7.1 hi x hx];rfl]
  rfl
 |some i=>
  obtain⟨s,t,u⟩:=Kn.1 hi
  rw[show CW l p=(i:Int)from by unfold CW;rw[hi]]
  have a:((i:Int)= -1)=False:=eq_false (by omega)
  have k: -9223372036854775808≤(i:Int)+1∧(i:Int)+1<9223372036854775808:=by omega
  have w:(l.take i).filter (fun x=>!p x)=l.take i:=S4.2 fun x hx=>by
   obtain⟨j,G,rfl⟩:=aA.1 hx
   rw[ax.2 (u j (by omega))];rfl
  have e:(l.take (i+1)).filter (fun x=>!p x)=l.take i:=by rw[Y5 s,HF,w];simp[t]
  obtain⟨b,D,y,z,A,C⟩:=yi (B:=RZ l f) l p (fun i j r x v H hx hl=>by
    have F:=(Yd.1 hl).1
    have o:(j:Int)<(l.length:Int):=by omega
    have q:=g x (Yk hl)
    have E: -9223372036854775808≤(i:Int)+1∧(i:Int)+1<9223372036854775808:=by omega
    have w2: -9223372036854775808≤(j:Int)+1∧(j:Int)+1<9223372036854775808:=by omega
    have c:(0:Int)≤(j:Int):=by omega
    have d:(0:Int)≤(i:Int):=by omega
    have m:(i:Int)<(l.length:Int):=by omega
    have n:i<r.length:=by omega
    dsimp only[RZ,Tv,al,Fm,DX,br,ix,CE,vz,vy,vw,vs,vg,v2,lr,AA,ln,Ah,lc,lf,Ej,ap,aq,a0,a1,ad,cl,cs,cf,wa,wi,ir,ca,cp,dd,mv,st,ss,sL,Bd.c,Bd.vl,sR,AH,Oc,Od,Oa,Oe,rb,cr,J9,ch]
    simp only[BW,AH,o,q,E,w2,c,d,m,n,hx,Co,OQ,HN,Yq,Yt,YS,Ya]
    cases p x<;>simp)
   (fun i r=>by
    dsimp only[RZ,Tv,al,Fm,DX,br,ix,CE,vz,vy,vw,vs,vg,v2,lr,AA,ln,Ah,lc,lf,Ej,ap,aq,a0,a1,ad,cl,cs,cf,wa,wi,ir,ca,cp,dd,mv,st,ss,sL,Bd.c,Bd.vl,sR,AH,Oc,Od,Oa,Oe,rb,cr,J9,ch]
    simp)
   (l.length-(i+1)) Am i (i+1) l (by omega) (A1 (by omega)) (by omega) rfl e.symm (by rw[e,Yx];omega) rfl
  rw[show((i:Int)+1)=((i+1:Nat):Int)from rfl]at k⊢
  simp only[a,k,y,YT,Yq,Yo,Co,Yt,YP,Ya,CG]
  have c:b≤l.length:=by rw[A];exact L9 _ _
  have d:(b:Int)=((D.take b).length:Int):=by rw[Yx];omega
  simp[dF,z,C,al,Fm,DX,br,ix,CE,vz,vy,vw,vs,vg,v2,lr,AA,ln,Ah,lc,lf,Ej,ap,aq,a0,a1,ad,cl,cs,cf,wa,wi,ir,ca,cp,dd,mv,st,ss,sL,Bd.c,Bd.vl,sR,AH,Oc,Od,Oa,Oe,rb,cr,J9,ch]
  omega
theorem m58(l:List Fld)(h:l.length<549755813888):Vl l=some l:=by
 unfold Vl
 simp only[eN,al,Fm,DX,br,ix,CE,vz,vy,vw,vs,vg,v2,lr,AA,ln,Ah,lc,lf,Ej,ap,aq,a0,a1,ad,cl,cs,cf,wa,wi,ir,ca,cp,dd,mv,st,ss,sL,Bd.c,Bd.vl,sR,AH,Yo,YP,h,Yt]
theorem ZSh(l:List Fld)(f:Fld→Option Bool)(p:Fld→Bool)(d:∀x∈l,f x=some (p x))(h:l.length<4611686018427387904):Ve l f=some (CW l p):=by
 unfold Ve
 simp only[Qe,P1,Qb,Qh,al,Fm,DX,br,ix,CE,vz,vy,vw,vs,vg,v2,lr,AA,ln,Ah,lc,lf,Ej,ap,aq,a0,a1,ad,cl,cs,cf,wa,wi,ir,ca,cp,dd,mv,st,ss,sL,Bd.c,Bd.vl,sR,AH]
 rw[Ew l p (fun i=>(i:Int)) () (hN:=A1 h) (he:=by simp[Wa,Qe,P1,Qb,Qh,al,Fm,DX,br,ix,CE,vz,vy,vw,vs,vg,v2,lr,AA,ln,Ah,lc,lf,Ej,ap,aq,a0,a1,ad,cl,cs,cf,wa,wi,ir,ca,cp,dd,mv,st,ss,sL,Bd.c,Bd.vl,sR,AH]) (hs:=by
  intro i y hy
  obtain⟨a,rfl⟩:=Yd.1 hy
  have b:i+1<9223372036854775808:=by omega
  have c:=d l[i] (Yk hy)
  simp[Wa,Qe,P1,Qb,Qh,al,Fm,DX,br,ix,CE,vz,vy,vw,vs,vg,v2,lr,AA,ln,Ah,lc,lf,Ej,ap,aq,a0,a1,ad,cl,cs,cf,wa,wi,ir,ca,cp,dd,mv,st,ss,sL,Bd.c,Bd.vl,sR,AH,a,b,c]
  cases p l[i]<;>rfl)]
 unfold CW
 cases l.findIdx? _<;>rfl
theorem m57(l:List Fld)(f:Fld→Option Bool)(p:Fld→Bool)(g:∀x∈l,f x=some (p x))(h:l.length<549755813888):Vd l f=some (l.filter fun x=>!p x):=by
 have e0:=ZSh l f p g (by omega)
 unfold Vd
 dsimp only[ej,dm,vw,vs,vg,vz,cs,br,lr,lf,lc,wi]
 rw[e0,Ya]
 cases hi:l.findIdx? p with
 |none=>
  rw[show CW l p= -1 from by unfold CW;rw[hi]]
  rw[show l.filter (fun x=>!p x)=l from S4.2 fun x hx=>by rw[L7.1 hi x hx];rfl]
  rfl
 |some i=>
  obtain⟨s,t,u⟩:=Kn.1 hi
  rw[show CW l p=(i:Int)from by unfold CW;rw[hi]]
  have a:((i:Int)= -1)=False:=eq_false (by omega)
  have k: -9223372036854775808≤(i:Int)+1∧(i:Int)+1<9223372036854775808:=by omega
  have w:(l.take i).filter (fun x=>!p x)=l.take i:=S4.2 fun x hx=>by
   obtain⟨j,G,rfl⟩:=aA.1 hx
   rw[ax.2 (u j (by omega))];rfl
  have e:(l.take (i+1)).filter (fun x=>!p x)=l.take i:=by rw[Y5 s,HF,w];simp[t]
  obtain⟨b,D,y,z,A,C⟩:=yi (B:=Rz l f) l p (fun i j r x v H hx hl=>by
    have F:=(Yd.1 hl).1
    have o:(j:Int)<(l.length:Int):=by omega
    have q:=g x (Yk hl)
    have E: -9223372036854775808≤(i:Int)+1∧(i:Int)+1<9223372036854775808:=by omega
    have w2: -9223372036854775808≤(j:Int)+1∧(j:Int)+1<9223372036854775808:=by omega
    have c:(0:Int)≤(j:Int):=by omega
    have d:(0:Int)≤(i:Int):=by omega
    have m:(i:Int)<(l.length:Int):=by omega
    have n:i<r.length:=by omega
    dsimp only[Rz,TS,al,Fm,DX,br,ix,CE,vz,vy,vw,vs,vg,v2,lr,AA,ln,Ah,lc,lf,Ej,ap,aq,a0,a1,ad,cl,cs,cf,wa,wi,ir,ca,cp,dd,mv,st,ss,sL,Bd.c,Bd.vl,sR,AH,Oc,Od,Oa,Oe,rb,cr,J9,ch]
    simp only[BW,AH,o,q,E,w2,c,d,m,n,hx,Co,OQ,HN,Yq,Yt,YS,Ya]
    cases p x<;>simp)
   (fun i r=>by
    dsimp only[Rz,TS,al,Fm,DX,br,ix,CE,vz,vy,vw,vs,vg,v2,lr,AA,ln,Ah,lc,lf,Ej,ap,aq,a0,a1,ad,cl,cs,cf,wa,wi,ir,ca,cp,dd,mv,st,ss,sL,Bd.c,Bd.vl,sR,AH,Oc,Od,Oa,Oe,rb,cr,J9,ch]
    simp)
   (l.length-(i+1)) Am i (i+1) l (by omega) (A1 (by omega)) (by omega) rfl e.symm (by rw[e,Yx];omega) rfl
  rw[show((i:Int)+1)=((i+1:Nat):Int)from rfl]at k⊢
  simp only[a,k,y,YT,Yq,Yo,Co,Yt,YP,Ya,CG]
  have c:b≤l.length:=by rw[A];exact L9 _ _
  have d:(b:Int)=((D.take b).length:Int):=by rw[Yx];omega
  simp[gx,z,C,al,Fm,DX,br,ix,CE,vz,vy,vw,vs,vg,v2,lr,AA,ln,Ah,lc,lf,Ej,ap,aq,a0,a1,ad,cl,cs,cf,wa,wi,ir,ca,cp,dd,mv,st,ss,sL,Bd.c,Bd.vl,sR,AH,Oc,Od,Oa,Oe,rb,cr,J9,ch]
  omega
theorem m29(m:Msg)(u:ByteArray)(h:m.fields.length≤1048576)(a:u≠⟨#[]⟩):Vz m u=some (m.fields.filter fun f=>decide (f.union=u)):=by
 dsimp only[Vz,gI,dJ,cI,bc,ba,br,vz,wg,lr,lc,fl,fr,br]
 rw[m58 _ (by omega),Ya,m57 _ (fun z=>Vj z u) (fun f=>!decide (f.union=u)) (fun x _=>rfl) (by omega)]
 simp[a]
theorem ZVg(m:Msg):Vz m ⟨#[]⟩=some []:=rfl
theorem lL{v:Val}(h:SzV v):j4 v=some (CK v):=by
 obtain⟨t1,t2,t3,t4,t5⟩:=h
 have e:v.list.length<4611686018427387904:=by omega
 have f:v.pairs.length<4611686018427387904:=by omega
 have g:v.slots.length<4611686018427387904:=by omega
 have i:v.raws.length<4611686018427387904:=by omega
 have key:∀a b c:Bool,(if a=true then some true else if b=true then some true else some c)=some (a||b||c):=fun a b c=>by cases a<;>cases b<;>rfl
 dsimp only[j4,nD,br,vz,vy,wg,lr,An,br]
 rw[key]
 congr 1
 unfold CK
 rw[aI]
 by_cases d:v.text=⟨#[]⟩<;>simp only[d,Yq,YT,YH,Yb,YJ,YE,YQ,Y2,CQ,Et,Eu,ne_eq,OF,L5,OP,HN,aL,Yo,or_false,false_or,Kl]<;>omega
theorem si{v:Val}(h:SzV v):Pv v=some (Mm v):=by
 obtain⟨t1,t2,t3,t4,t5⟩:=h
 have a:v.list.length<4611686018427387904:=by omega
 have b:v.pairs.length<4611686018427387904:=by omega
 have c:v.slots.length<4611686018427387904:=by omega
 have d:v.raws.length<4611686018427387904:=by omega
 dsimp only[Pv,W5,vz,vy,wg,lr,An]
 congr 1
 unfold Mm
 rw[aI]
 simp only[Yb,YE]
 omega
theorem ZOO(n:Int):MJ n=some (O0 n):=by
 dsimp only[MJ,Rb,lr]
 unfold O0
 rw[Bool.decide_or]
theorem ZOd(n b:Int)(h:1≤n∧n≤9)(d:O0 n=false):(if decide (n=1)=true then some (decide (b≤1))else if decide (n=2)=true then some (decide (-2147483648≤IntKind.i64.wrap b)&&decide (IntKind.i64.wrap b≤2147483647))else if decide (n=4)=true then some (decide (b<4294967296))else if decide (n=9)=true then some (decide (b<2147483648))else some true)=some (Uc n b):=by
 unfold Uc
 have a:decide (b<4294967296)=decide (b≤4294967295):=decide_eq_decide.2 (by omega)
 have c:decide (b<2147483648)=decide (b≤2147483647):=decide_eq_decide.2 (by omega)
 rw[a,c]
 simp only[YE,aK]
 repeat' (first|rfl|split)
theorem ZL9(n:Int){v:Val}(h:SzV v):Ju n v=some (Jf n v):=by
 have f:=h.t
 have j:v.text.size<4611686018427387904:=by omega
 have g:MN n=some (decide (1≤n)&&decide (n≤9)):=rfl
 have k:∀x y z:Bool,(if((x&&y)&&!z)=true then True else True)=True:=fun x y z=>by split<;>rfl
 dsimp only[Ju,Q1,br,vz,vy,wg,lr,cl,AO,Bz,br]
 rw[g,si h,ZOO,ZrI _ f,Ya]
 unfold Jf
 by_cases c:1≤n∧n≤9∧v.kind=n
 ·obtain⟨a,b,d⟩:=c
  simp only[a,b,d,Co,Yq,OO,Y2,SW,Kh,CQ,SV,Fx,YO,Yt,Ya,D2,j,Eu]
  cases hl:Mm v with
  |false=>rfl
  |true=>
   cases i:O0 n with
   |true=>
    simp only[Y2,Yo,YP,Yt,Eu]
    rw[aK]
    congr 3
    exact decide_eq_decide.2 (by omega)
   |false=>
    simp only[Y2,Yo,YP,Eu]
    by_cases hx:v.text=⟨#[]⟩
    ·simp only[hx,Yq,Y2,Yo,YP,Eu]
     exact ZOd n v.bits ⟨a,b⟩ i
    ·simp only[hx,YT,CQ,Yt,Et]
 ·have e:((!(decide (1≤n)&&decide (n≤9)))||!decide (v.kind=n))=true:=by
   simp only[YH,YJ,Kk,YQ]
   omega
  simp only[e,c,YT,Et,Y2,Yo,OB,Yt,OE]
theorem vU(n:Int){v:Val}(h:SzV v):jN n v=some (EM n v):=by
 have f:=h.t
 have d:v.text.size<4611686018427387904:=by omega
 dsimp only[jN,my,br,vz,wg,lr,cl,AO,Bz,br]
 rw[lL h,ZL9 n h,Ya]
 unfold EM
 by_cases c:v.kind=n
 ·cases g:CK v with
  |true=>simp[c]
  |false=>
   by_cases b:4096<v.text.size
   ·have a:(4096:Int)<v.text.size:=by omega
    simp[c,d,b,a]
   ·have a:¬(4096:Int)<v.text.size:=by omega
    cases Jf n v with
    |true=>simp[c,d,b,a]
    |false=>
     by_cases e:n=7
     ·simp[c,d,b,a,e]
     ·simp[c,d,b,a,e]
 ·simp[c]
theorem rT(s:Scm)(n:ByteArray)(h:s.enums.length≤1048576):jL s n=some (Dg s n):=by
 have d:=Ew (B:=Qu s n) (N:=Am) s.enums (fun e=>decide (e.name=n)) (fun i=>(s.enums.getD i default,true)) () (fun i x hx=>by
  have a:=BI hx
  have f:=(Yd.1 hx).1
  have b:i+1<9223372036854775808:=by omega
  have c:s.enums.length<4611686018427387904:=by omega
  dsimp only[Qu,WA,br,ix,vz,wg,vs,AA,ln,Ah,wa,An,br]
  simp only[a,b,c,hx,Yq,Yt,Ya,Yg,YO]
  cases decide (x.name=n)<;>simp) (by simp[Qu,WA,br,ix,vz,wg,vs,AA,ln,Ah,wa,An,br]) (A1 (by omega))
 dsimp only[jL,oH,nb,po,wg,lr,lc]
 unfold Dg
 rw[d,P6]
 cases s.enums.findIdx? fun m=>decide (m.name=n)<;>rfl
theorem ZtN{s:Scm}(h:SzS s)(n:ByteArray):(Dg s n).1.items.length≤1048576:=by
 unfold Dg C4
 cases e:s.enums.find? fun m=>decide (m.name=n)with
 |none=>decide
 |some m=>exact(h.e m (HI e)).il
theorem ZtS{s:Scm}(hs:At (Ar s)≤1048576)(n:ByteArray):∀x∈(Dg s n).1.items,-9223372036854775808≤x.num:=by
 unfold Dg C4
 cases e:s.enums.find? fun m=>decide (m.name=n)with
 |none=>intro x hx;cases hx
 |some m=>
  intro x hx
  have a:=C1 (e:=Cv) (HI e)
  have b:=C1 (e:=FX) (show x∈m.items from hx)
  simp only[Ar,At,bk]at hs
  simp only[Cv,At,bk]at a
  simp only[FX,At,bk]at b
  have:=wA (k:=.i64) (n:=x.num) (by omega)
  exact this.1
theorem r4(e:Enm)(b:Int)(h:e.items.length≤1048576)(k:∀x∈e.items,-9223372036854775808≤x.num)(p:b<9223372036854775808):Py e b=some (LN e b):=by
 have j:e.items.length<4611686018427387904:=by omega
 have m:=Ew (B:=QP e b) (N:=Am) e.items (fun x=>decide (IntKind.u64.wrap x.num=b)) (fun _=>true) () (fun i x hx=>by
  have a:=BI hx
  have n:=(Yd.1 hx).1
  have d:i+1<9223372036854775808:=by omega
  have o:=k x (Yk hx)
  have f:e.items.getD (i:Int).toNat Rw.z=x:=by rw[YS,Yg,hx];rfl
  have g:(0:Int)≤i∧(i:Int)<e.items.length:=⟨by omega,a⟩
  have key:(decide ((0:Int)≤x.num)&&decide (IntKind.u64.wrap x.num=b))=decide (IntKind.u64.wrap x.num=b):=by
   by_cases c:(0:Int)≤x.num
   ·rw[Yn c,Eu]
   ·have l:IntKind.u64.wrap x.num=x.num%18446744073709551616:=rfl
    rw[Ys c,Et]
    symm
    rw[YQ,l]
    omega
  dsimp only[QP,Xo,br,ix,AZ,vz,vy,wg,vs,AA,ln,Ah,wa,An,br]
  simp only[j,a,d,f,g,hx,Yq,Yt,Ya,Co,D2,key]
  cases decide (IntKind.u64.wrap x.num=b)<;>simp) (by simp[QP,Xo,br,ix,AZ,vz,vy,wg,vs,AA,ln,Ah,wa,An,br]) (A1 (by omega))
 dsimp only[Py,p8,mn,o8,lr,lc]
 unfold LN
 rw[m,←Ow]
 cases e.items.findIdx? fun x=>decide (IntKind.u64.wrap x.num=b)<;>rfl
theorem VU{α ξ ρ:Type}{B:Nat→Option (Lv Nat ξ ρ)}{N:Nat}(l:List α)(p:α→Bool)(r:ρ)(e:ξ)
  (hs:∀i x,l[i]?=some x→B i=some (if p x=true then .rt r else .nx (i+1))) (he:B l.length=some (.ex e)) (hN:l.length<N):Ak B N 0=some (if l.any p=true then .inr r else .inl e):=by
 rw[Ew l p (fun _=>r) e hs he hN,←Ow]
 cases l.findIdx? p<;>rfl
theorem ZIZ(v:Val)(k:Int)(h:v.slots.length≤1048576):jz v k=some (BZ v.slots k):=by
 have c:v.slots.length<4611686018427387904:=by omega
 have d:=Ew (B:=QM v k) (N:=Am) v.slots (fun x=>decide (x.num=k)) (fun _=>true) () (fun i x hx=>by
  have a:=BI hx
  have e:=(Yd.1 hx).1
  have b:i+1<9223372036854775808:=by omega
  dsimp only[QM,WF,br,ix,vz,wg,vs,AA,ln,Ah,wa,An,br]
  simp only[c,a,b,hx,Yq,Yt,Ya]
  cases decide (x.num=k)<;>simp) (by simp[QM,WF,br,ix,vz,wg,vs,AA,ln,Ah,wa,An,br]) (A1 (by omega))
 dsimp only[jz,pP,n3,pA,lr,lc]
 unfold BZ
 rw[d,←Ow]
 cases v.slots.findIdx? fun x=>decide (x.num=k)<;>rfl
theorem ZKk{s:Scm}(hs:At (Ar s)≤1048576)(m:Msg)(x:Raw)(hm:m.fields.length≤1048576)(hx:x.data.size≤1048576):jA s m x=some (Kq s m.fields x):=by
 have h:=Fr hs
 have A:x.data.size<4611686018427387904:=by omega
 have o:=rT s (Ba m.fields x.num).type.name h.el
 have d:x.bits<2147483648→Py (Dg s (Ba m.fields x.num).type.name).1 x.bits=_:=fun y=>r4 _ _ (ZtN h _) (ZtS hs _) (by omega)
 have w:(BV m.fields x.num).1=Ba m.fields x.num:=rfl
 dsimp only[jA,nT,kY,br,vy,wg,lr,cl,AO,Bz,br]
 rw[qq _ _ hm,Ya,w]
 unfold Kq xP
 have j:((((((decide (x.num<1)||decide (65535<x.num))||decide (x.wire<0))||decide (6<x.wire))||(((decide (x.wire=0)||decide (x.wire=1))||decide (x.wire=2))&&!decide (x.data=⟨#[]⟩)))||((!((decide (x.wire=0)||decide (x.wire=1))||decide (x.wire=2)))&&!decide (x.bits=0)))=true)=(x.num<1∨65535<x.num∨x.wire<0∨6<x.wire∨(x.wire≤2∧x.data≠⟨#[]⟩)∨(2<x.wire∧x.bits≠0)):=by
  by_cases p:x.data=⟨#[]⟩<;>simp only[p,Yq,YT,Y2,CQ,Kg,ON,aL,YH,Yb,YJ,YE,YQ,Kl,ne_eq,OF,L5,and_false,OQ,false_or,eq_iff_iff]<;>omega
 have b:(if((decide (x.wire=3)&&decide ((4096:Int)<x.data.size))||decide ((65536:Int)<x.data.size))=true then some (3:Int)else some 0)=some (if(x.wire=3∧4096<x.data.size)∨65536<x.data.size then 3 else 0):=by
  by_cases c:(x.wire=3∧4096<x.data.size)∨65536<x.data.size
  ·rw[Yj c,Yj]
   simp only[YH,Yb,YE]
   omega
  ·rw[Ym c,Ym]
   simp only[YH,Yb,YE]
   omega
 by_cases c:x.num<1∨65535<x.num∨x.wire<0∨6<x.wire∨(x.wire≤2∧x.data≠⟨#[]⟩)∨(2<x.wire∧x.bits≠0)
 ·rw[Yj c,Yj (j▸c)]
 ·rw[Ym c,Ym (j▸c)]
  cases z:(BV m.fields x.num).2 with
  |false=>
   simp only[Yo,YP,OP]
   exact b
  |true=>
   simp only[Yt,HN]
   rw[o,Ya]
   generalize (Dg s (Ba m.fields x.num).type.name)=a at d⊢
   generalize Ba m.fields x.num=f at d⊢
   by_cases k:f.type.kind=9∧a.2=true∧a.1.opn=false∧¬f.card=5∧x.wire=0∧x.bits<2147483648
   ·obtain⟨q,r,t,u,l,n⟩:=k
    have i:¬(2147483648≤x.bits):=by omega
    simp only[q,r,t,u,l,n,i,d n,Yq,YT,Y2,CQ,SW,Kh,SV,Fx,YO,Yt,OO,Eu]
    cases LN a.1 x.bits with
    |true=>simp only[Yt,Y2]
    |false=>
     simp only[Yo,YP,CQ,reduceCtorEq]
     rw[l]at b
     simpa using b
   ·have i:((((((!decide (f.type.kind=9))||(!a.2))||a.1.opn)||decide (f.card=5))||(!decide (x.wire=0)))||decide (2147483648≤x.bits))=true:=by
     simp only[YH,YJ,YE,YQ]
     cases e:a.2<;>cases g:a.1.opn<;>simp only[e,g,HN,OQ,OP,and_false,reduceCtorEq,L5,true_or,or_true,false_or,or_false]at k⊢<;>omega
    have v:(decide (f.type.kind=9)&&a.2&&!a.1.opn&&!decide (f.card=5)&&decide (x.wire=0)&&decide (x.bits<2147483648)&&!LN a.1 x.bits)=false:=by
     rw[Kk]
     left
     cases e:a.2<;>cases g:a.1.opn<;>simp only[e,g,Kg,Et,Y2,CQ,ON]at k⊢
     simp only[Kk,ao,YQ,YE]
     simp only[HN]at k
     omega
    simp only[i,v,Y2,Yo,OB,Yt,OE]
theorem ZxC(R:X3)(l:Fld→Val→Int)(s:Scm)(m:Msg)(v:Val)(i:Nat)(x:Slt)(a:Int)(k:Bool)(hm:m.fields.length≤1048576)(hl:v.slots.length≤1048576)(hx:v.slots[i]?=some x)(F:1≤a∧a≤16)(t:∀f:Fld,(BV m.fields x.num)=(f,true)→R s f x.val (a+1) k=some (l f x.val)):U7 R s m v i a k=some (FW l m.fields v.slots i x):=by
 have hi:=(Yd.1 hx).1
 have c:(v.slots.take i).length=i:=by rw[Yx];omega
 have b:∀(j:Nat) (y:Slt),(v.slots.take i)[j]?=some y→j<i∧v.slots[j]?=some y:=fun j y hy=>by
  rw[Y3]at hy
  split at hy
  ·exact⟨by assumption,hy⟩
  ·cases hy
 have A:∀y:Fld×Bool,Ak (Nj s m v i a k R y) Am 0=some (if BZ (v.slots.take i) y.1.num=true then .inr 9 else .inl ()):=fun y=>by
  have q:=VU (B:=Nj s m v i a k R y) (N:=Am) (v.slots.take i) (fun z=>decide (z.num=y.1.num)) (9:Int) () (fun j z h=>by
   obtain⟨p,d⟩:=b j z h
   have e:(j:Int)<i:=by omega
   have g:j+1<9223372036854775808:=by omega
   dsimp only[Nj,Wz,br,ix,wg,vs,AA,ln,Ah,wa,br]
   simp only[d,e,g,Yq,Yt,Ya]
   cases decide (z.num=y.1.num)<;>simp) (by rw[c];dsimp only[Nj,Wz,br,ix,wg,vs,AA,ln,Ah,wa,br];simp) (by rw[c];exact A1 (by omega))
  exact q
 have C:∀y:Fld×Bool,Ak (Nk s m v i a k R y) Am 0=some (if KU m.fields (v.slots.take i) y.1.union=true then .inr 15 else .inl ()):=fun y=>by
  have q:=VU (B:=Nk s m v i a k R y) (N:=Am) (v.slots.take i) (fun z=>(!decide (y.1.union=⟨#[]⟩))&&decide ((Ba m.fields z.num).union=y.1.union)) (15:Int) () (fun j z h=>by
   obtain⟨p,d⟩:=b j z h
   have e:(j:Int)<i:=by omega
   have g:j+1<9223372036854775808:=by omega
   have r:(BV m.fields z.num).1=Ba m.fields z.num:=rfl
   dsimp only[Nk,WT,Wu,Xg,Xi,br,ix,wg,vs,AA,ln,Ah,lc,cl,wa,du,br]
   simp only[d,e,g,qq _ _ hm,r,Yq,Yt,Ya]
   cases(!decide (y.1.union=⟨#[]⟩))&&decide ((Ba m.fields z.num).union=y.1.union)<;>simp) (by rw[c];dsimp only[Nk,WT,Wu,Xg,Xi,br,ix,wg,vs,AA,ln,Ah,lc,cl,wa,du,br];simp) (by rw[c];exact A1 (by omega))
  rw[q]
  congr 2
  unfold KU
  by_cases o:y.1.union=⟨#[]⟩
  ·simp only[o,Yq,Y2,Et,eq_iff_iff,Yo,iff_false,YU,not_exists,and_false,L5,D2]
  ·simp only[o,YT,CQ,Eu]
 have w0:(0:Int)≤i∧(i:Int)<v.slots.length:=by omega
 have D:(BV m.fields x.num).1=Ba m.fields x.num:=rfl
 have w2: -9223372036854775808≤a+1∧a+1<9223372036854775808:=by omega
 have E:(v.slots.getD i Rw.z)=x:=by rw[Yg,hx];rfl
 unfold FW
 dsimp only[U7,lE,mi,nN,o3,p5,oc,br,CE,vw,wg,vs,lr,lc,cl,cs,wi,du,br]
 simp only[YS,hx,w0,E,Co,Yt,qq _ _ hm,Ya,A,C,D,w2]
 cases n:(BV m.fields x.num).2 with
 |false=>simp
 |true=>
  have u:(Ba m.fields x.num).num=x.num:=ZpP n
  have w:=t (Ba m.fields x.num) (Prod.ext rfl n)
  rw[u]
  cases BZ (v.slots.take i) x.num with
  |true=>simp
  |false=>
   cases KU m.fields (v.slots.take i) (Ba m.fields x.num).union with
   |true=>simp
   |false=>simp[w]
theorem Ztw(R:X3){s:Scm}(hs:At (Ar s)≤1048576)(m:Msg)(v:Val)(d:Nat)(K:d≤16)(k:Bool)(hm:m.fields.length≤1048576)(o:A2 v)(D:∀d':Nat,d=d'+1→∀(f:Fld) (x:Val),A2 x→R s f x (17-(d':Int)) k=some (Cf (Bf s k d') s k f x)):Po R s m v (17-(d:Int)) k=some (Bf s k d m v):=by
 have h:=Fr hs
 have F:=CP o
 obtain⟨s1,s2,L,t,M⟩:=CP o
 have u:m.fields.length<4611686018427387904:=by omega
 have w:v.slots.length<4611686018427387904:=by omega
 have y:v.raws.length<4611686018427387904:=by omega
 dsimp only[Po,fa,bg,fh,dn,cJ,br,wg,lr,lc,AO,br]
 rw[lL F]
 by_cases c:v.kind≠10∨CK v=true
 ·have z:Bf s k d m v=12:=by cases d<;>(unfold Bf;rw[Yj c])
  rw[z]
  by_cases a:v.kind=10
  ·have n:CK v=true:=c.resolve_left fun e=>e a
   simp[a,n]
  ·simp[a]
 ·have a:v.kind=10:=Decidable.not_not.1 fun e=>c (.inl e)
  have n:CK v=false:=by
   cases h:CK v with
   |false=>rfl
   |true=>exact absurd (.inr h) c
  cases d with
  |zero=>
   unfold Bf
   rw[Ym c]
   simp[a,n]
  |succ d=>
   have G:(1:Int)≤17-((d+1:Nat):Int)∧17-((d+1:Nat):Int)≤16:=by omega
   have q:¬(16:Int)<17-((d+1:Nat):Int):=by omega
   have H:=PO (B:=Rp s m v (17-((d+1:Nat):Int)) k R) (N:=Am) v.slots (FW (Cf (Bf s k d) s k) m.fields v.slots) id () (fun i x hx _=>by
    have e:=ZxC R (Cf (Bf s k d) s k) s m v i x _ k hm t hx G fun f j=>by
     have:=D d rfl f x.val (H6 o (Yk hx))
     rw[show 17-((d+1:Nat):Int)+1=17-(d:Int)by omega]
     exact this
    have b:=BI hx
    have g:i+1<9223372036854775808:=by have:=(Yd.1 hx).1;omega
    dsimp only[Rp,Tf,br,vz,wg,vs,v2,AA,ln,Ah,cs,wa,An,br]
    simp only[w,b,g,e,Yq,Yt,Ya]
    by_cases hy:FW (Cf (Bf s k d) s k) m.fields v.slots i x=0<;>simp[hy]) (by dsimp only[Rp,Tf,br,vz,wg,vs,v2,AA,ln,Ah,cs,wa,An,br];simp[w]) (A1 (by omega))
   have I:=PO (B:=RQ s m v R) (N:=Am) m.fields (fun _ f=>Iy v.slots f) id () (fun i f j _=>by
    have b:=BI j
    have g:i+1<9223372036854775808:=by have:=(Yd.1 j).1;omega
    have A:m.fields.getD i Rw.z=f:=by rw[Yg,j];rfl
    have C:(0:Int)≤i∧(i:Int)<m.fields.length:=⟨by omega,b⟩
    have e:=ZIZ v f.num t
    unfold Iy
    dsimp only[RQ,Tq,br,ix,AZ,vz,wg,vs,AA,ln,Ah,AO,wa,An,br]
    simp only[u,b,g,A,C,j,e,YS,Yq,Yt,Ya,Co,D2,Fx,YO]
    by_cases E:f.card=1<;>cases BZ v.slots f.num<;>simp[E]) (by dsimp only[RQ,Tq,br,ix,AZ,vz,wg,vs,AA,ln,Ah,AO,wa,An,br];simp[u]) (A1 (by omega))
   have J:=PO (B:=RH s m v R) (N:=Am) v.raws (fun _ x=>Kq s m.fields x) id () (fun i x hx _=>by
    have b:=BI hx
    have g:i+1<9223372036854775808:=by have:=(Yd.1 hx).1;omega
    have e:=ZKk hs m x hm (ZSq o (Yk hx))
    dsimp only[RH,Zh,br,ix,vz,wg,vs,AA,ln,Ah,cl,wa,An,br]
    simp only[y,b,g,hx,e,Yq,Yt,Ya]
    by_cases hy:Kq s m.fields x=0<;>simp[hy]) (by dsimp only[RH,Zh,br,ix,vz,wg,vs,AA,ln,Ah,cl,wa,An,br];simp[y]) (A1 (by omega))
   unfold Bf
   rw[Ym c]
   simp only[a,n,q,H,I,J,Yq,YT,Y2,CQ,SW,Yo,SV,Fx,YO,Yt,YP,Ya]
   by_cases l:Ce (FW (Cf (Bf s k d) s k) m.fields v.slots) v.slots 0=0
   ·by_cases p:Ce (fun _ f=>Iy v.slots f) m.fields 0=0
    ·by_cases r:Ce (fun _ x=>Kq s m.fields x) v.raws 0=0
     ·simp[l,p,r]
     ·simp[l,p,r]
    ·simp[l,p]
   ·simp[l]
theorem ZHI(R:X3){s:Scm}(hs:At (Ar s)≤1048576)(t:Typ)(v:Val)(d:Nat)(q:d≤16)(k:Bool)(m:A2 v)(p:∀d':Nat,d=d'+1→∀(f:Fld) (x:Val),A2 x→R s f x (17-(d':Int)) k=some (Cf (Bf s k d') s k f x)):MI R s t v (17-(d:Int)) k=some (DR (Bf s k d) s t v):=by
 have h:=Fr hs
 have hm:=Ztw R hs (A8 s t.name).1 v d q k (M4 h _) m p
 have o:v.bits<9223372036854775808→Py (Dg s t.name).1 v.bits=_:=fun i=>r4 _ _ (ZtN h _) (ZtS hs _) i
 have n:KX s t.name=some (A8 s t.name):=ZE s _ h.ml
 dsimp only[MI,mm,br,wg,lr,cl,AO,cs,br]
 rw[n,vU _ (CP m),rT s _ h.el]
 simp only[Ya]
 unfold DR
 by_cases c:t.kind=10
 ·simp only[c,Yq,Yt,hm,Ya]
  cases(A8 s t.name).2<;>simp
 ·by_cases e:t.kind<1∨9<t.kind
  ·have g:(decide (t.kind<1)||decide (9<t.kind))=true:=by simpa using e
   simp only[c,e,g,YT,Yo,YP,Yt]
  ·have g:(decide (t.kind<1)||decide (9<t.kind))=false:=by
    rw[Kl,YQ,YQ]
    omega
   simp only[c,e,g,YT,Yo,YP]
   by_cases a:EM t.kind v=0∧t.kind=9
   ·obtain⟨a,b⟩:=a
    have i:v.bits<9223372036854775808:=by
     rw[b]at a
     unfold EM at a
     by_cases a1:v.kind≠9∨CK v=true
     ·rw[Yj a1]at a;cases a
     ·rw[Ym a1]at a
      by_cases j:4096<v.text.size
      ·rw[Yj j]at a;cases a
      ·rw[Ym j]at a
       cases a3:Jf 9 v with
       |false=>rw[a3]at a;simp at a
       |true=>
        unfold Jf at a3
        simp only[Yb]at a3
        have a4:=a3.2
        rw[Ym (by decide)]at a4
        simp only[Yb]at a4
        have l:=a4.2
        unfold Uc at l
        rw[Ym (by decide),Ym (by decide),Ym (by decide),Yj rfl,YE]at l
        omega
    rw[o i,a,b]
    cases(Dg s t.name).2<;>cases(Dg s t.name).1.opn<;>cases LN (Dg s t.name).1 v.bits<;>simp
   ·have b:((!decide (EM t.kind v=0))||!decide (t.kind=9))=true:=by
     simp only[YH,YJ,YQ]
     omega
    rw[Yj b,Yj (by omega)]
theorem ZFT(R:X3){s:Scm}(hs:At (Ar s)≤1048576)(f:Fld)(v:Val)(d:Nat)(S:d≤16)(k:Bool)(t:A2 v)(Q:∀d':Nat,d=d'+1→∀(f:Fld) (x:Val),A2 x→R s f x (17-(d':Int)) k=some (Cf (Bf s k d') s k f x)):XZ R s f v (17-(d:Int)) k=some (Cf (Bf s k d) s k f v):=by
 have h:=Fr hs
 have l:=CP t
 obtain⟨s1,s2,Y,Z,s5⟩:=CP t
 have G:v.list.length<4611686018427387904:=by omega
 have w2:v.pairs.length<4611686018427387904:=by omega
 have y:=fun(x:Val) (hx:A2 x)=>ZHI R hs f.type x d S k hx Q
 generalize 17-(d:Int)=A at y
 have U:=PO (B:=QF s f v A k R) (N:=Am) v.list (fun _ x=>DR (Bf s k d) s f.type x) id () (fun i x hx _=>by
  have w:=BI hx
  have g:i+1<9223372036854775808:=by have:=(Yd.1 hx).1;omega
  have e:=y x (Rn t (Yk hx))
  dsimp only[QF,Xf,br,ix,vz,wg,vs,v2,AA,ln,Ah,cs,wa,An,br]
  simp only[G,w,g,hx,e,Yq,Yt,Ya]
  by_cases hy:DR (Bf s k d) s f.type x=0<;>simp[hy]) (by dsimp only[QF,Xf,br,ix,vz,wg,vs,v2,AA,ln,Ah,cs,wa,An,br];simp[G]) (A1 (by omega))
 have W:∀(i:Nat) (p:Pr),v.pairs[i]?=some p→Ak (Lz s f v A k R i) Am 0=some (if k=true∧((v.pairs.take i).any fun q=>KD q.key p.key)=true then .inr 9 else .inl ()):=fun i p c=>by
  have hi:=(Yd.1 c).1
  have F:(v.pairs.take i).length=i:=by rw[Yx];omega
  cases k with
  |false=>
   obtain⟨X,D⟩:∃b,Am=b+1:=⟨Am-1,by have:=A1 (n:=20) (by omega);omega⟩
   rw[D,Ak]
   dsimp only[Lz,Q4,br,ix,AZ,wg,vs,AA,ln,Ah,wa,br]
   simp
  |true=>
   have q:=VU (B:=Lz s f v A true R i) (N:=Am) (v.pairs.take i) (fun q=>KD q.key p.key) (9:Int) () (fun j z l=>by
    have T:j<i∧v.pairs[j]?=some z:=by
     rw[Y3]at l
     split at l
     ·exact⟨by assumption,l⟩
     ·cases l
    obtain⟨w,g⟩:=T
    have J:(j:Int)<i:=by omega
    have K:j+1<9223372036854775808:=by omega
    have L:v.pairs.getD j Rw.z=z:=by rw[Yg,g];rfl
    have M:v.pairs.getD i Rw.z=p:=by rw[Yg,c];rfl
    have O:(0:Int)≤j∧(j:Int)<v.pairs.length:=by omega
    have P:(0:Int)≤i∧(i:Int)<v.pairs.length:=by omega
    unfold KD
    dsimp only[Lz,Q4,br,ix,AZ,wg,vs,AA,ln,Ah,wa,br]
    simp only[g,J,K,L,M,O,P,c,YS,Yq,ON,Yt,Ya,Co,D2]
    cases decide (z.key.bits=p.key.bits)&&decide (z.key.text=p.key.text)<;>simp) (by rw[F];dsimp only[Lz,Q4,br,ix,AZ,wg,vs,AA,ln,Ah,wa,br];simp) (by rw[F];exact A1 (by omega))
   rw[q]
   simp
 have V:=PO (B:=Qy s f v A k R) (N:=Am) v.pairs (Mq (DR (Bf s k d) s f.type) f.key k v.pairs) id () (fun i p c _=>by
  have w:=BI c
  have g:i+1<9223372036854775808:=by have:=(Yd.1 c).1;omega
  have E:=GC t (Yk c)
  have H:=vU f.key (CP E.1)
  have I:=y p.val E.2
  unfold Mq
  dsimp only[Qy,Wd,WI,WX,WE,Wy,br,ix,vz,wg,vs,AA,ln,Ah,lc,cl,cs,wa,An,br]
  simp only[w2,w,g,c,H,I,W i p c,Yq,Yt,Ya]
  by_cases u:EM f.key p.key=0
  ·by_cases m:k=true∧((v.pairs.take i).any fun q=>KD q.key p.key)=true
   ·simp[u,m]
   ·by_cases C:DR (Bf s k d) s f.type p.val=0
    ·rw[Ym m]
     simp only[u,m,C]
     simp
    ·rw[Ym m]
     simp only[u,m,C]
     simp[C]
  ·simp[u]) (by dsimp only[Qy,Wd,WI,WX,WE,Wy,br,ix,vz,wg,vs,AA,ln,Ah,lc,cl,cs,wa,An,br];simp[w2]) (A1 (by omega))
 have e0:=y v t
 unfold Cf
 dsimp only[XZ,mj,l6,lX,pi,l7,nj,mg,mf,o2,lN,l8,lB,br,wg,lr,lc,AO,cs,br]
 rw[lL l,U,V,e0]
 by_cases o:f.card=4
 ·by_cases a:v.kind=11
  ·cases CK v with
   |true=>simp[o,a]
   |false=>
    by_cases c6:Ce (fun _ x=>DR (Bf s k d) s f.type x) v.list 0=0
    ·simp[o,a,c6]
    ·simp[o,a,c6]
  ·simp[o,a]
 ·by_cases r:f.card=5
  ·by_cases a:v.kind=12
   ·cases CK v with
    |true=>simp[r,a]
    |false=>
     by_cases c6:Ce (Mq (DR (Bf s k d) s f.type) f.key k v.pairs) v.pairs 0=0
     ·simp[r,a,c6]
     ·simp[r,a,c6]
   ·simp[r,a]
  ·simp[o,r]
theorem Zn0{s:Scm}(hs:At (Ar s)≤1048576)(k:Bool):∀(a d:Nat),d<a→d≤16→∀(f:Fld) (v:Val),A2 v→Js a s f v (17-(d:Int)) k=some (Cf (Bf s k d) s k f v)
 |0,d,b,_,_,_,_=>absurd b (Y1 _)
 |a+1,d,b,c,f,v,h=>ZFT (Js a) hs f v d c k h fun d' e g x hx=>Zn0 hs k a d' (by omega) (by omega) g x hx
theorem ve:20<Am:=A1 (by omega)
theorem ZAD{s:Scm}(hs:At (Ar s)≤1048576)(m:Msg)(v:Val)(k:Bool)(hm:m.fields.length≤1048576)(a:A2 v):Po (Js Am) s m v 1 k=some (Bf s k 16 m v):=
 Ztw (Js Am) hs m v 16 (Yf _) k hm a fun d' e f x hx=>Zn0 hs k Am d' (by have:=ve;omega) (by omega) f x hx
end Go.Proofs.YtjbijbkdiijhaaaGreat
