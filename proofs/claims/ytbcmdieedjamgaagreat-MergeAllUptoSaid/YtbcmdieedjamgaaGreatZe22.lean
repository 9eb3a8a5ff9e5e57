import Derived.Test.YtbcmdieedjamgaaGreatZe21
import Derived.Sort.Walk0
import Derived.Test.YtbcmdieedjamgaaGreatZe00
namespace Go.Proofs.YtbcmdieedjamgaaGreat
set_option linter.all false
open Go Go.Eng
def B1{α:Type}(f:Nat→α→Int):List α→Nat→Int
 |[],_=>0
 |x::l,i=>if f i x=0 then B1 f l (i+1)else f i x
theorem Li{α:Type}(f:Nat→α→Int):∀(l:List α) (i:Nat),B1 f l i=0↔∀(j:Nat) (x:α),l[j]?=some x→f (i+j) x=0
 |[],i=>by simp[B1]
 |x::l,i=>by
  unfold B1
  have a:=Li f l (i+1)
  by_cases h:f i x=0
  ·rw[Yi h,a]
   constructor
   ·intro k j y hy
    cases j with
    |zero=>cases hy;exact h
    |succ j=>have:=k j y hy;rw[show i+(j+1)=i+1+j by omega];exact this
   ·intro k j y hy
    have:=k (j+1) y hy
    rw[show i+(j+1)=i+1+j by omega]at this
    exact this
  ·rw[Ym h]
   exact⟨fun e=>absurd e h,fun k=>k 0 x rfl⟩
theorem Ps{α ξ ρ:Type}{B:Nat→Option (Lv Nat ξ ρ)}{N:Nat}(l:List α)(f:Nat→α→Int)(r:Int→ρ)(e:ξ)
  (hs:∀(i:Nat) (x:α),l[i]?=some x→(∀(j:Nat) (y:α),j<i→l[j]?=some y→f j y=0)→B i=some (if f i x=0 then .nx (i+1)else .rt (r (f i x))))
  (he:B l.length=some (.ex e)) (hN:l.length<N):Ai B N 0=some (if B1 f l 0=0 then .inl e else .inr (r (B1 f l 0))):=by
 suffices H:∀k i N,i+k=l.length→(∀(j:Nat) (y:α),j<i→l[j]?=some y→f j y=0)→k<N→Ai B N i=some (if B1 f (l.drop i) i=0 then .inl e else .inr (r (B1 f (l.drop i) i)))by
  have:=H l.length 0 N (by omega) (fun j y c=>absurd c (by omega)) hN
  rwa [LV]at this
 intro k
 induction k with
 |zero=>
  intro i N hi _ hN
  obtain⟨N,rfl⟩:∃m,N=m+1:=⟨N-1,by omega⟩
  have:i=l.length:=by omega
  subst this
  rw[Ai,he,Rx]
  rfl
 |succ k d=>
  intro i N hi b hN
  obtain⟨N,rfl⟩:∃m,N=m+1:=⟨N-1,by omega⟩
  have a:i<l.length:=by omega
  rw[Ai,hs i l[i] (Ye a) b,HH a,B1]
  by_cases h:f i l[i]=0
  ·rw[Yi h,Yi h]
   refine d (i+1) N (by omega) (fun j y c hy=>?_) (by omega)
   by_cases e:j=i
   ·subst e
    rw[Ye a]at hy
    cases hy
    exact h
   ·exact b j y (by omega) hy
  ·rw[Ym h,Ym h,Ym h]
def Cg(v:Val):Bool:=decide ((v.kind≠11∧0<v.list.length)∨(v.kind≠12∧0<v.pairs.length)∨(v.kind≠10∧(0<v.slots.length∨0<v.raws.length))∨(v.text≠⟨#[]⟩∧¬(v.kind=7∨v.kind=8))∨(v.bits≠0∧(v.kind=7∨v.kind=8∨v.kind=10∨v.kind=11∨v.kind=12)))
def Ct(x:ByteArray)(p:Nat)(lo hi:Nat):Bool:=decide (p<x.size)&&decide (lo≤(x.get! p).toNat)&&decide ((x.get! p).toNat≤hi)
def CD(x:ByteArray)(p:Nat):Nat:=
 let b:=(x.get! p).toNat
 if b<0x80 then 1
 else if 0xc2≤b∧b≤0xdf∧Ct x (p+1) 0x80 0xbf=true then 2
 else if b=0xe0∧Ct x (p+1) 0xa0 0xbf=true∧Ct x (p+2) 0x80 0xbf=true then 3
 else if b=0xed∧Ct x (p+1) 0x80 0x9f=true∧Ct x (p+2) 0x80 0xbf=true then 3
 else if 0xe1≤b∧b≤0xef∧b≠0xed∧Ct x (p+1) 0x80 0xbf=true∧Ct x (p+2) 0x80 0xbf=true then 3
 else if b=0xf0∧Ct x (p+1) 0x90 0xbf=true∧Ct x (p+2) 0x80 0xbf=true∧Ct x (p+3) 0x80 0xbf=true then 4
 else if 0xf1≤b∧b≤0xf3∧Ct x (p+1) 0x80 0xbf=true∧Ct x (p+2) 0x80 0xbf=true∧Ct x (p+3) 0x80 0xbf=true then 4
 else if b=0xf4∧Ct x (p+1) 0x80 0x8f=true∧Ct x (p+2) 0x80 0xbf=true∧Ct x (p+3) 0x80 0xbf=true then 4
 else 0
def Ga(x:ByteArray):Nat→Nat→Bool
 |0,_=>true
 |n+1,p=>if p<x.size then(if CD x p=0 then false else Ga x n (p+CD x p))else true
def Kv(x:ByteArray):Bool:=Ga x (x.size+1) 0
def Si(n b:Int):Bool:=if n=1 then decide (b≤1)else if n=2 then decide (-2147483648≤IntKind.i64.wrap b∧IntKind.i64.wrap b≤2147483647)else if n=4 then decide (b≤4294967295)else if n=9 then decide (b≤2147483647)else true
def Mc(v:Val):Bool:=decide (v.list.length=0∧v.pairs.length=0∧v.slots.length=0∧v.raws.length=0)
def OC(n:Int):Bool:=decide (n=7∨n=8)
def I9(n:Int)(v:Val):Bool:=decide (1≤n∧n≤9∧v.kind=n)&&Mc v&&(if OC n then decide (v.bits=0∧v.text.size≤4096)&&(decide (n=8)||Kv v.text)else decide (v.text=⟨#[]⟩)&&Si n v.bits)
def DX(n:Int)(v:Val):Int:=if v.kind≠n∨Cg v=true then 12 else if 4096<v.text.size then 3 else if I9 n v=true then 0 else if n=7 then 7 else 12
def zE:Enm:=.mk ⟨#[]⟩ false [] [] []
def AJ(s:Scm)(n:ByteArray):Msg×Bool:=C3 s.messages zM fun m=>decide (m.name=n)
def De(s:Scm)(n:ByteArray):Enm×Bool:=C3 s.enums zE fun e=>decide (e.name=n)
def Lt(e:Enm)(b:Int):Bool:=e.items.any fun x=>decide (IntKind.u64.wrap x.num=b)
def CL(R:Msg→Val→Int)(s:Scm)(t:Typ)(v:Val):Int:=
 if t.kind=10 then(if(AJ s t.name).2=true then R (AJ s t.name).1 v else 10)
 else if t.kind<1∨9<t.kind then 12
 else if DX t.kind v≠0∨t.kind≠9 then DX t.kind v
 else if(De s t.name).2=false then 10
 else if(De s t.name).1.opn=false∧Lt (De s t.name).1 v.bits=false then 16 else 0
def Iq(a b:Val):Bool:=decide (a.bits=b.bits)&&decide (a.text=b.text)
def Kl(E:Val→Int)(key:Int)(k:Bool)(l:List Pr)(i:Nat)(p:Pr):Int:=
 if DX key p.key≠0 then DX key p.key else if k=true∧((l.take i).any fun q=>Iq q.key p.key)=true then 9 else E p.val
def BR(R:Msg→Val→Int)(s:Scm)(k:Bool)(f:Fld)(v:Val):Int:=
 if f.card=4 then(if v.kind≠11∨Cg v=true then 12 else B1 (fun _ x=>CL R s f.type x) v.list 0)
 else if f.card=5 then(if v.kind≠12∨Cg v=true then 12 else B1 (Kl (CL R s f.type) f.key k v.pairs) v.pairs 0)
 else CL R s f.type v
def Kw(F:List Fld)(l:List Slt)(u:ByteArray):Bool:=!decide (u=⟨#[]⟩)&&l.any fun y=>decide ((AW F y.num).union=u)
def F2(R:Fld→Val→Int)(F:List Fld)(l:List Slt)(i:Nat)(x:Slt):Int:=
 if(Bo F x.num).2=false then 8 else if BM (l.take i) x.num=true then 9 else if Kw F (l.take i) (AW F x.num).union=true then 15 else R (AW F x.num) x.val
def II(l:List Slt)(f:Fld):Int:=if f.card=1∧BM l f.num=false then 14 else 0
def p6(s:Scm)(f:Fld)(x:Raw):Bool:=decide (f.type.kind=9)&&(De s f.type.name).2&&!(De s f.type.name).1.opn&&!decide (f.card=5)&&decide (x.wire=0)&&decide (x.bits<2147483648)&&!Lt (De s f.type.name).1 x.bits
def KM(s:Scm)(F:List Fld)(x:Raw):Int:=
 if x.num<1∨65535<x.num∨x.wire<0∨6<x.wire∨(x.wire≤2∧x.data≠⟨#[]⟩)∨(2<x.wire∧x.bits≠0)then 1
 else if(Bo F x.num).2=true∧p6 s (AW F x.num) x=false then 1
 else if(x.wire=3∧4096<x.data.size)∨65536<x.data.size then 3 else 0
def A0(s:Scm)(k:Bool):Nat→Msg→Val→Int
 |0,_,v=>if v.kind≠10∨Cg v=true then 12 else 17
 |d+1,m,v=>
  if v.kind≠10∨Cg v=true then 12
  else if B1 (F2 (BR (A0 s k d) s k) m.fields v.slots) v.slots 0≠0 then B1 (F2 (BR (A0 s k d) s k) m.fields v.slots) v.slots 0
  else if B1 (fun _ f=>II v.slots f) m.fields 0≠0 then B1 (fun _ f=>II v.slots f) m.fields 0
  else B1 (fun _ x=>KM s m.fields x) v.raws 0
mutual
def cnt:Val→Nat
 |.mk _ _ _ l p s r=>1+r.length+Bi l+BG p+B5 s
def Bi:List Val→Nat
 |[]=>0
 |v::l=>cnt v+Bi l
def Nr:Pr→Nat
 |.mk k v=>cnt k+cnt v
def BG:List Pr→Nat
 |[]=>0
 |p::l=>Nr p+BG l
def Nm:Slt→Nat
 |.mk _ v=>cnt v
def B5:List Slt→Nat
 |[]=>0
 |x::l=>Nm x+B5 l
end
def KJ(s:Scm)(k:Bool)(n:ByteArray)(v:Val):Int:=
 if(AJ s n).2=false then 10 else if A0 s k 16 (AJ s n).1 v≠0 then A0 s k 16 (AJ s n).1 v else if 4096<cnt v then 3 else 0
end Go.Proofs.YtbcmdieedjamgaaGreat
namespace Go.Proofs.YtbcmdieedjamgaaGreat
set_option linter.all false
open Go Go.Eng
theorem Zzf(x:ByteArray)(p:Nat):x.data.toList.getD p 0=x.get! p:=by
 cases x with
 |mk d=>
  show d.toList.getD p 0=d.getD p 0
  rw[Yg,YE,YC]
theorem zy(x:ByteArray)(i:Nat)(lo hi:Nat)(h:x.size≤1048576):Mo x (i:Int) (lo:Int) (hi:Int)=some (Ct x i lo hi):=by
 have w:x.size<4611686018427387904:=by omega
 dsimp only[Mo,gg,vz,lr,Bp,Gg]
 simp only[w,Yt,YP,Zzf]
 have a:∀b c:Bool,(b=true→decide ((i:Int)<x.size)=true)→(if(b=true→(0:Int)≤i∧(i:Int)<x.size)then(some c)else none)=some c:=fun b c d=>by
  rw[Yi]
  intro h
  have:=d h
  simp only[YB]at this
  omega
 rw[a _ _ (fun h=>by rw[Yc]at h;exact h.1),a _ _ (fun h=>h)]
 unfold Ct
 congr 1
 rw[Xs]
 simp only[Yc,YB]
 omega
theorem lV(x:ByteArray)(i n:Nat)(h:x.size≤1048576)(hi:i≤2097152)(p:n≤9):KV x (i:Int) (n:Int)=some ((List.range n).all fun k=>Ct x (i+k) 128 191):=by
 have o:=Et (B:=Le x (i:Int) (n:Int)) (N:=Ah) (List.range n) (fun k=>!Ct x (i+k) 128 191) (fun _=>false) () (fun k y a=>by
  have b:=(Yb.1 a).1
  rw[W3]at b
  have hy:y=k:=by rw[List.getElem?_range b]at a;cases a;rfl
  subst hy
  have e:=zy x (i+y) 128 191 h
  rw[Int.natCast_add]at e
  have d:(y:Int)<n:=by omega
  have f:y+1<9223372036854775808:=by omega
  have g: -9223372036854775808≤(i:Int)+y∧(i:Int)+y<9223372036854775808:=by omega
  dsimp only[Le,Vc,br,vs,At,ln,Af,cl,wa,wi,br]
  simp only[d,f,g,Yp,Yt,Cm]
  rw[show((128:Int))=((128:Nat):Int)from rfl,show((191:Int))=((191:Nat):Int)from rfl,e,Ya]
  cases Ct x (i+y) 128 191<;>rfl) (by rw[W3];dsimp only[Le,Vc,br,vs,At,ln,Af,cl,wa,wi,br];simp) (by rw[W3];exact AP (by omega))
 dsimp only[KV,fJ,fH,gp,lr,lc]
 rw[o]
 cases c:(List.range n).findIdx? fun k=>!Ct x (i+k) 128 191 with
 |none=>
  have:=LP.1 c
  have e:((List.range n).all fun k=>Ct x (i+k) 128 191)=true:=Yu.2 fun k a=>by simpa using this k a
  rw[e]
  rfl
 |some j=>
  obtain⟨l,m,_⟩:=Kg.1 c
  have e:((List.range n).all fun k=>Ct x (i+k) 128 191)=false:=by
   rw[List.all_eq_false]
   exact⟨_,Gk l,by simpa using m⟩
  rw[e]
  rfl
theorem Jf{c:Prop}[Decidable c]{b:Bool}(n:Nat)(h:b=true↔c){x:Option Int}{m:Nat}(k:x=some (m:Int)):(if b=true then some (n:Int)else x)=some ((if c then n else m:Nat):Int):=by
 by_cases a:c
 ·rw[Yi (h.2 a),Yi a]
 ·rw[Ym (fun e=>a (h.1 e)),Ym a,k]
theorem ZOI(x:ByteArray)(p:Nat)(q:p<x.size)(h:x.size≤1048576):O2 x (p:Int)=some (CD x p:Int):=by
 have t1:∀n:Nat,n≤9→KV x ((p:Int)+1) (n:Int)=_:=fun n d=>lV x (p+1) n h (by omega) d
 have t2:∀n:Nat,n≤9→KV x ((p:Int)+2) (n:Int)=_:=fun n d=>lV x (p+2) n h (by omega) d
 have a:∀lo hi:Nat,Mo x ((p:Int)+1) lo hi=_:=fun lo hi=>zy x (p+1) lo hi h
 have a1:=t1 1 (by omega)
 have b:=t1 2 (by omega)
 have a3:=t1 3 (by omega)
 have a4:=t2 1 (by omega)
 have c:=t2 2 (by omega)
 have e:=a 160 191
 have g:=a 128 159
 have i:=a 144 191
 have j:=a 128 143
 have w0:(0:Int)≤p∧(p:Int)<x.size:=by omega
 have o: -9223372036854775808≤(p:Int)+1∧(p:Int)+1<9223372036854775808:=by omega
 have w2: -9223372036854775808≤(p:Int)+2∧(p:Int)+2<9223372036854775808:=by omega
 have k:∀f:Nat→Bool,(List.range 1).all f=f 0:=fun f=>by simp[Xt]
 have l:∀f:Nat→Bool,(List.range 2).all f=(f 0&&f 1):=fun f=>by simp[Xt]
 have m:∀f:Nat→Bool,(List.range 3).all f=(f 0&&(f 1&&f 2)):=fun f=>by simp[Xt,Bool.and_assoc]
 rw[k]at a1 a4
 rw[l]at b c
 rw[m]at a3
 simp only[GX,YI,Nat.reduceAdd,Int.cast_ofNat_Int]at a1 b a3 a4 c e g i j
 dsimp only[O2,ga,br,vg,lr,AH,wi,br,QM]
 simp only[w0,o,w2,Cm,Yt,YP,Zzf,a1,b,a3,a4,c,e,g,i,j,FA,YM,D4]
 unfold CD
 refine Jf 1 (by simp only[YB];omega) ?_
 refine Jf 2 (by simp only[Yc,YB];grind) ?_
 refine Jf 3 (by simp only[Yc,YB];grind) ?_
 refine Jf 3 (by simp only[Yc,YB];grind) ?_
 refine Jf 3 (by simp only[Yc,YK,YB,YT];grind) ?_
 refine Jf 4 (by simp only[Yc,YB];grind) ?_
 refine Jf 4 (by simp only[Yc,YB];grind) ?_
 refine Jf 4 (by simp only[Yc,YB];grind) ?_
 rfl
theorem ZI1(x:ByteArray)(p:Nat):CD x p≤4:=by
 unfold CD
 dsimp only
 repeat' (first|split|omega)
theorem ZGR(x:ByteArray):∀(k p n m:Nat),x.size-p=k→x.size-p<n→x.size-p<m→Ga x n p=Ga x m p:=by
 intro k
 induction k using Nat.strongRecOn with
 |_ k c=>
  intro p n m d e hm
  obtain⟨n,rfl⟩:∃j,n=j+1:=⟨n-1,by omega⟩
  obtain⟨m,rfl⟩:∃j,m=j+1:=⟨m-1,by omega⟩
  unfold Ga
  by_cases a:p<x.size
  ·rw[Yi a,Yi a]
   by_cases b:CD x p=0
   ·rw[Yi b,Yi b]
   ·rw[Ym b,Ym b]
    exact c (x.size-(p+CD x p)) (by omega) _ _ _ rfl (by omega) (by omega)
  ·rw[Ym a,Ym a]
def KH(x:ByteArray)(p:Nat):Bool:=Ga x (x.size+1-p) p
theorem ZxI{x:ByteArray}{p:Nat}(h:x.size≤p):KH x p=true:=by
 unfold KH
 cases x.size+1-p with
 |zero=>rfl
 |succ n=>unfold Ga;rw[Ym (by omega)]
theorem Zug{x:ByteArray}{p:Nat}(h:p<x.size):KH x p=if CD x p=0 then false else KH x (p+CD x p):=by
 unfold KH
 obtain⟨n,e⟩:∃n,x.size+1-p=n+1:=⟨x.size-p,by omega⟩
 rw[e]
 conv=>lhs;unfold Ga
 rw[Yi h]
 by_cases a:CD x p=0
 ·rw[Yi a,Yi a]
 ·rw[Ym a,Ym a]
  by_cases b:p+CD x p<x.size
  ·exact ZGR x _ _ _ _ rfl (by omega) (by omega)
  ·have c:Ga x n (p+CD x p)=true:=by
    cases n with
    |zero=>rfl
    |succ n=>unfold Ga;rw[Ym b]
   have d:Ga x (x.size+1-(p+CD x p)) (p+CD x p)=true:=by
    cases x.size+1-(p+CD x p)with
    |zero=>rfl
    |succ n=>unfold Ga;rw[Ym b]
   rw[c,d]
theorem ZPU(x:ByteArray):Kv x=KH x 0:=rfl
theorem Zsb(x:ByteArray)(h:x.size≤1048576):Mq x=some (Kv x):=by
 have q:Ok (Sum.elim (fun _=>Kv x=true) (fun r:Int=>0≤r∧Kv x=false)) (Ai (MV x) Ah 0):=by
  refine Bt (fun v:Int=>0≤v∧Kv x=KH x v.toNat) (fun v:Int=>x.size-v.toNat) ⟨by omega,ZPU x⟩ (AP (by omega)) fun v c=>?_
  obtain⟨v,rfl⟩:∃n:Nat,v=n:=⟨v.toNat,by omega⟩
  obtain⟨_,c⟩:=c
  rw[YP]at c
  have w:x.size<4611686018427387904:=by omega
  dsimp only[MV,gf,br,vz,vs,At,ln,Af,cl,wi,Bp,br]
  by_cases g:v<x.size
  ·have d:(v:Int)<x.size:=by omega
   have hs:=ZI1 x v
   have b:=Zug g
   simp only[w,Yt,d,Yp,ZOI x v g h,Ya]
   by_cases f:CD x v=0
   ·rw[Yi f]at b
    simp only[f,Int.ofNat_zero,Int.cast_ofNat_Int,Yp,Yt]
    exact⟨_,rfl,by omega,by rw[c,b]⟩
   ·rw[Ym f]at b
    have j:¬((CD x v:Int)=0):=by omega
    have k: -9223372036854775808≤(v:Int)+CD x v∧(v:Int)+CD x v<9223372036854775808:=by omega
    simp only[j,YW,Yo,YQ,k,Cm,Yt]
    refine⟨_,rfl,⟨by omega,?_⟩,?_⟩
    ·rw[c,b,show((v:Int)+CD x v).toNat=v+CD x v by omega]
    ·show x.size-((v:Int)+CD x v).toNat<x.size-(v:Int).toNat
     omega
  ·have d:¬(v:Int)<x.size:=by omega
   simp only[w,Yt,d,YW,Yo,YQ]
   exact⟨_,rfl,by rw[c,ZxI (by omega)]⟩
 obtain⟨y,e,a⟩:=q
 dsimp only[Mq,ZR,lr,cl,SU,hU,gx,hH,lr,lc]
 rw[e]
 cases y with
 |inl y=>
  have a:Kv x=true:=a
  rw[a]
  rfl
 |inr r=>
  obtain⟨a1,i⟩:=a
  rw[i]
  simp only[Ya,Sum.elim_inr]
  rw[show decide (r<0)=false by simpa using a1]
def W1(c:Nat)(x:Val):Prop:=∀a,c≤a→Ok (fun b=>b=true) (Jm a x x)
theorem W1.mono{c d:Nat}{x:Val}(h:W1 c x)(k:c≤d):W1 d x:=fun a b=>h a (D7 k b)
theorem MH{n:Nat}(h:n<18446744073709551616):IntKind.u64.wrap (n:Int)=n:=by
 unfold IntKind.wrap
 have:(IntKind.u64.bits)=64:=rfl
 simp only[this,show IntKind.u64.signed=false from rfl,Er,Yo,YQ]
 omega
theorem MU(n:Nat):BitVec.ofInt 64 (n:Int)=BitVec.ofNat 64 n:=BitVec.ofInt_natCast ..
theorem eB{n m:Nat}(a:n<18446744073709551616)(hm:m<18446744073709551616):Dh .u64 (n:Int) (m:Int)=((n&&&m:Nat):Int):=by
 unfold Dh
 have h:(BitVec.ofInt 64 (n:Int)&&&BitVec.ofInt 64 (m:Int)).toNat=n&&&m:=by
  rw[MU,MU,BitVec.toNat_and,N3,N3,J9 a,J9 hm]
 show IntKind.u64.wrap (((BitVec.ofInt 64 (n:Int)&&&BitVec.ofInt 64 (m:Int)).toNat:Nat):Int)=_
 rw[h]
 exact MH (Nat.lt_of_le_of_lt Nat.and_le_left a)
theorem ZGZ{n m:Nat}(a:n<18446744073709551616)(hm:m<18446744073709551616):GO .u64 (n:Int) (m:Int)=((n|||m:Nat):Int):=by
 unfold GO
 have h:(BitVec.ofInt 64 (n:Int)|||BitVec.ofInt 64 (m:Int)).toNat=n|||m:=by
  rw[MU,MU,BitVec.toNat_or,N3,N3,J9 a,J9 hm]
 show IntKind.u64.wrap (((BitVec.ofInt 64 (n:Int)|||BitVec.ofInt 64 (m:Int)).toNat:Nat):Int)=_
 rw[h]
 exact MH (Nat.or_lt_two_pow (n:=64) a hm)
theorem Zyn{n:Nat}(a:n<18446744073709551616):I2 .u64 (n:Int)=((18446744073709551615-n:Nat):Int):=by
 unfold I2 Ma
 have e:(if IntKind.u64.signed=true then(-1:Int)else IntKind.u64.max)=((18446744073709551615:Nat):Int):=rfl
 rw[e]
 have h:(BitVec.ofInt 64 ((18446744073709551615:Nat):Int)^^^BitVec.ofInt 64 (n:Int)).toNat=18446744073709551615-n:=by
  rw[MU,MU,show BitVec.ofNat 64 18446744073709551615=BitVec.allOnes 64 from rfl,BitVec.allOnes_xor,BitVec.toNat_not,N3,J9 a]
 show IntKind.u64.wrap (((BitVec.ofInt 64 ((18446744073709551615:Nat):Int)^^^BitVec.ofInt 64 (n:Int)).toNat:Nat):Int)=_
 rw[h]
 exact MH (by omega)
theorem ZDK(n:Nat):n&&&9218868437227405312=(n/4503599627370496%2048)*4503599627370496:=by
 have e:(9218868437227405312:Nat)=2047<<<52:=rfl
 have a:n/4503599627370496%2048*4503599627370496=((n>>>52)%2^11)<<<52:=by
  rw[Nat.shiftLeft_eq,Nat.shiftRight_eq_div_pow]
 rw[e,a]
 apply Nat.eq_of_testBit_eq
 intro i
 have b:(2047:Nat)=2^11-1:=rfl
 rw[Nat.testBit_and,jL,jL,Nat.testBit_mod_two_pow,Nat.testBit_shiftRight,b,Nat.testBit_two_pow_sub_one]
 by_cases h:52≤i
 ·rw[show 52+(i-52)=i by omega]
  simp only[h,Yp,Es]
  rw[Bool.and_comm]
 ·simp[h]
theorem Zyj(n:Nat):n&&&4503599627370495=n%4503599627370496:=Nat.and_two_pow_sub_one_eq_mod n 52
theorem ZvA{n:Nat}(b:n<18446744073709551616):n&&&9223372036854775808=if 9223372036854775808≤n then 9223372036854775808 else 0:=by
 have e:(9223372036854775808:Nat)=2^63:=rfl
 have k:n.testBit 63=decide (9223372036854775808≤n):=by
  rw[Nat.testBit_eq_decide_div_mod_eq,decide_eq_decide]
  omega
 apply Nat.eq_of_testBit_eq
 intro i
 rw[Nat.testBit_and]
 by_cases hi:63=i
 ·subst hi
  rw[k]
  by_cases h:9223372036854775808≤n
  ·simp[h]
  ·simp[h]
 ·have a:Nat.testBit 9223372036854775808 i=false:=by
   rw[e,Nat.testBit_two_pow]
   exact Yr hi
  rw[a,Ka]
  split
  ·exact a.symm
  ·simp
def Ir(n:Nat):Bool:=decide (9218868437227405312<n%9223372036854775808)
theorem ZW7{n:Nat}(e:n<18446744073709551616):Ok (fun y:Int=>decide (y=0)=Ir n) (dp (n:Int)):=by
 have a:=eB e (m:=9218868437227405312) (by omega)
 have b:=eB e (m:=4503599627370495) (by omega)
 rw[ZDK]at a
 rw[Zyj]at b
 have a:Dh .u64 (n:Int) 9218868437227405312=_:=a
 have b:Dh .u64 (n:Int) 4503599627370495=_:=b
 dsimp only[dp,m0,br,vz,lr,br]
 rw[a,b]
 unfold Ir
 have f:(((n/4503599627370496%2048*4503599627370496:Nat):Int)=9218868437227405312)↔n/4503599627370496%2048=2047:=by omega
 have g:(((n%4503599627370496:Nat):Int)=0)↔n%4503599627370496=0:=by omega
 have h:9218868437227405312<n%9223372036854775808↔n/4503599627370496%2048=2047∧n%4503599627370496≠0:=by omega
 simp only[f,g,h]
 by_cases c:n/4503599627370496%2048=2047
 ·by_cases d:n%4503599627370496=0
  ·simp only[c,d];exact AF (by decide)
  ·simp only[c,d];exact AF (by simp[d])
 ·have i:decide (n/4503599627370496%2048=2047)=false:=Yr c
  simp only[i,c,Er,Oc,YW,Yo,YQ]
  refine AI (fun _=>AF (by decide)) fun _=>AI (fun _=>AF (by decide)) fun _=>AF (by decide)
theorem xx{n:Nat}(b:n<18446744073709551616):Ok (fun y:Int=>decide (y=0)=Ir n) (OT (n:Int)):=by
 have e:EJ .u64 (n:Int) 9223372036854775808=((n%9223372036854775808:Nat):Int):=by
  unfold EJ
  rw[Int.tmod_eq_emod_of_nonneg (by omega)]
  omega
 dsimp only[OT,gZ,br,lr,br,rem]
 rw[e]
 unfold Ir
 have g:(9218868437227405312:Int)<((n%9223372036854775808:Nat):Int)↔9218868437227405312<n%9223372036854775808:=by omega
 simp only[g]
 by_cases h:9218868437227405312<n%9223372036854775808
 ·simp only[h];first|exact AF (by decide)|simp
 ·have a:decide (9218868437227405312<n%9223372036854775808)=false:=Yr h
  simp only[a,Yo,YQ]
  first
   |refine AI (fun _=>AF (by decide)) fun _=>AI (fun _=>AF (by decide)) fun _=>AI (fun _=>AF (by decide)) fun _=>AF (by decide)
   |simp
def GQ(n:Nat):Nat:=if Ir n=true then 18446744073709551615 else if 9223372036854775808≤n then 18446744073709551615-n else n+9223372036854775808
theorem xf{n:Nat}(a:n<18446744073709551616):dn (n:Int)=some (GQ n:Int):=by
 obtain⟨y,e,h⟩:=ZW7 a
 have c:=eB a (m:=9223372036854775808) (by omega)
 rw[ZvA a]at c
 have c:Dh .u64 (n:Int) 9223372036854775808=_:=c
 have d:=Zyn a
 have f:GO .u64 (n:Int) 9223372036854775808=((n|||9223372036854775808:Nat):Int):=ZGZ a (m:=9223372036854775808) (by omega)
 dsimp only[dn,l8,br,vz,lr,cl,br]
 rw[e,Ya,h,c,d,f]
 unfold GQ
 cases Ir n with
 |true=>rfl
 |false=>
  by_cases hs:9223372036854775808≤n
  ·simp[hs]
  ·have g:n|||9223372036854775808=n+9223372036854775808:=by
    have j:=Nat.two_pow_add_eq_or_of_lt (i:=63) (b:=n) (by omega) 1
    rw[Nat.or_comm]
    have k:9223372036854775808+n=9223372036854775808|||n:=j
    exact k.symm.trans (NZ _ _)
   simp[hs,g]
theorem xj{v:Val}{n:Nat}(i:n<18446744073709551616)(g:v.bits=(n:Int)):cE v=some (if v.kind=2∨v.kind=3 then IntKind.u64.wrap ((n:Int)+9223372036854775808)else if v.kind=6 then(GQ n:Int)else(n:Int)):=by
 obtain⟨y,e,h⟩:=xx i
 dsimp only[cE,nw,ee,br,vz,wg,lr,cl,br,yr,ke,lr]
 rw[g]
 by_cases a:v.kind=2∨v.kind=3
 ·have b:(decide (v.kind=2)||decide (v.kind=3))=true:=by simpa using a
  simp only[b,a,Yt]
  rfl
 ·have b:(decide (v.kind=2)||decide (v.kind=3))=false:=by simpa using a
  simp only[b,a,Yo,YQ]
  by_cases f:v.kind=6
  ·have j:=MH (n:=18446744073709551615-n) (by omega)
   simp only[f,Yp,Y7,Yo,YQ,e,Ya,h]
   unfold GQ
   cases Ir n with
   |true=>rfl
   |false=>
    by_cases hs:9223372036854775808≤n
    ·have c:(9223372036854775808:Int)≤(n:Int):=by omega
     have d:(18446744073709551615:Int)-(n:Int)=((18446744073709551615-n:Nat):Int):=by omega
     simp[hs,c,d,j]
    ·have c:¬(9223372036854775808:Int)≤(n:Int):=by omega
     have d:(n:Int)+9223372036854775808=((n+9223372036854775808:Nat):Int):=by omega
     have w2:=MH (n:=n+9223372036854775808) (by omega)
     simp only[hs,c,d,w2,YW,Yo,YQ,Yt]
  ·simp[f]
def BJ(a b:Int):Int:=if a<b then -1 else if b<a then 1 else 0
theorem SI(a b:Int):dh a b=some (BJ a b):=by
 dsimp only[dh,pz,br,lr,cl,br,yG,tD,lr]
 unfold BJ
 by_cases h:a<b
 ·simp[h]
 ·by_cases c:b<a<;>simp[h,c]
theorem wI(a b:Int):cw a b=some (BJ a b):=by
 dsimp only[cw,Zzi,br,lr,cl,br,yA,nM,lr]
 unfold BJ
 by_cases h:a<b
 ·simp[h]
 ·by_cases c:b<a<;>simp[h,c]
theorem ZWR(a b:Int):bX a b=some (BJ a b):=by
 dsimp only[bX,lF,br,lr,br]
 unfold BJ
 by_cases h:a<b
 ·simp[h]
 ·by_cases c:b<a<;>simp[h,c]
def EO(a b:ByteArray):Int:=if BB a b=true then -1 else if a=b then 0 else 1
theorem ow(a b:ByteArray):decide (EO a b=0)=decide (a=b):=by
 unfold EO
 by_cases h:a=b
 ·subst h
  have:BB a a=false:=by
   unfold BB
   rw[Go.Proofs.bytesLess_eq]
   exact Yr (List.lt_irrefl _)
  simp[this]
 ·cases BB a b<;>simp[h]
theorem ZXS(a b:ByteArray):cA a b=some (EO a b):=by
 dsimp only[cA,mB,br,lr,cl,br,yB,lw,lr]
 unfold EO
 cases h:BB a b with
 |true=>simp
 |false=>by_cases c:a=b<;>simp[c]
theorem wQ{α ρ:Type}{B:Int×Int×List α→Option (Lv (Int×Int×List α) (Int×List α) ρ)}(l:List α)(p:α→Bool)
  (s:∀(i j:Nat) (r:List α) x,i≤j→r.length=l.length→r[j]?=some x→l[j]?=some x→B ((i:Int),(j:Int),r)=some (.nx (if p x then((i:Int),((j+1:Nat):Int),r)else(((i+1:Nat):Int),((j+1:Nat):Int),r.set i x))))
  (t:∀(i:Nat) r,B ((i:Int),(l.length:Int),r)=some (.ex ((i:Int),r))):
  ∀(k N i j:Nat) (r:List α),j+k=l.length→k<N→i≤j→r.length=l.length→r.take i=(l.take j).filter (fun x=>!p x)→i=((l.take j).filter fun x=>!p x).length→r.drop j=l.drop j→
  ∃(n:Nat) (o:List α),Ai B N ((i:Int),(j:Int),r)=some (.inl ((n:Int),o))∧o.take n=l.filter (fun x=>!p x)∧n=(l.filter fun x=>!p x).length∧o.length=l.length:=by
 intro k
 induction k with
 |zero=>
  intro N i j r u hN b c d hi e
  obtain⟨N,rfl⟩:∃m,N=m+1:=⟨N-1,by omega⟩
  have:j=l.length:=by omega
  subst this
  rw[LN]at d hi
  exact⟨i,r,by rw[Ai,t],d,hi,c⟩
 |succ k q=>
  intro N i j r u hN b c d hi e
  obtain⟨N,rfl⟩:∃m,N=m+1:=⟨N-1,by omega⟩
  have a:j<l.length:=by omega
  have hl:l[j]?=some l[j]:=Ye a
  have h:r[j]?=some l[j]:=by
   have:=congrArg (fun z=>z[0]?) e
   simpa[Y1,a]using this
  have e0:l.take (j+1)=l.take j++[l[j]]:=Y8 a
  rw[Ai,s i j r l[j] b c h hl]
  cases f:p l[j]with
  |true=>
   refine q N i (j+1) r (by omega) (by omega) (by omega) c ?_ ?_ ?_
   ·rw[e0,HF,d];simp[f]
   ·rw[e0,HF];simpa[f]using hi
   ·have:=congrArg (List.drop 1) e
    simpa[Ob]using this
  |false=>
   have g:i<r.length:=by omega
   refine q N (i+1) (j+1) (r.set i l[j]) (by omega) (by omega) (by omega) (by rw[Oa];exact c) ?_ ?_ ?_
   ·rw[e0,HF,←d,Y8 (by rw[Oa];exact g),List.take_set_of_le (Yf _),jE]
    simp[f]
   ·rw[e0,HF,Yq,←hi]
    simp[f]
   ·rw[List.drop_set_of_lt (by omega)]
    have:=congrArg (List.drop 1) e
    simpa[Ob]using this
theorem oo(l:List Slt)(f:Slt→Option Bool)(p:Slt→Bool)(d:∀x∈l,f x=some (p x))(h:l.length<4611686018427387904):OY l f=some (CU l p):=by
 unfold OY
 simp only[Uc,Ub,T9,Uj,al,Fp,D0,br,ix,Cj,vz,vy,vw,vs,vg,v2,lr,At,ln,Af,lc,lf,Ei,ap,aq,a0,a1,ad,cl,cs,cf,wa,wi,ir,ca,cp,dd,mv,st,ss,sL,Bd.c,Bd.vl,sR,AA]
 rw[Et l p (fun i=>(i:Int)) () (hN:=AP h) (he:=by simp[Ul,Uc,Ub,T9,Uj,al,Fp,D0,br,ix,Cj,vz,vy,vw,vs,vg,v2,lr,At,ln,Af,lc,lf,Ei,ap,aq,a0,a1,ad,cl,cs,cf,wa,wi,ir,ca,cp,dd,mv,st,ss,sL,Bd.c,Bd.vl,sR,AA]) (hs:=by
  intro i y hy
  obtain⟨a,rfl⟩:=Yb.1 hy
  have b:i+1<9223372036854775808:=by omega
  have c:=d l[i] (Yj hy)
  simp[Ul,Uc,Ub,T9,Uj,al,Fp,D0,br,ix,Cj,vz,vy,vw,vs,vg,v2,lr,At,ln,Af,lc,lf,Ei,ap,aq,a0,a1,ad,cl,cs,cf,wa,wi,ir,ca,cp,dd,mv,st,ss,sL,Bd.c,Bd.vl,sR,AA,a,b,c]
  cases p l[i]<;>rfl)]
 unfold CU
 cases l.findIdx? _<;>rfl
theorem n41(l:List Slt)(f:Slt→Option Bool)(p:Slt→Bool)(g:∀x∈l,f x=some (p x))(h:l.length<549755813888):OX l f=some (l.filter fun x=>!p x):=by
 have e0:=oo l f p g (by omega)
 unfold OX
 dsimp only[rW,q6,vw,vs,vg,vz,cs,br,lr,lf,lc,wi]
 rw[e0,Ya]
 cases hi:l.findIdx? p with
 |none=>
  rw[show CU l p= -1 from by unfold CU;rw[hi]]
  rw[show l.filter (fun x=>!p x)=l from RC.2 fun x hx=>by rw[LP.1 hi x hx];rfl]
  rfl
 |some i=>
  obtain⟨s,t,u⟩:=Kg.1 hi
  rw[show CU l p=(i:Int)from by unfold CU;rw[hi]]
  have a:((i:Int)= -1)=False:=eq_false (by omega)
  have k: -9223372036854775808≤(i:Int)+1∧(i:Int)+1<9223372036854775808:=by omega
  have w:(l.take i).filter (fun x=>!p x)=l.take i:=RC.2 fun x hx=>by
   obtain⟨j,G,rfl⟩:=Xk.1 hx
   rw[W4.2 (u j (by omega))];rfl
  have e:(l.take (i+1)).filter (fun x=>!p x)=l.take i:=by rw[Y8 s,HF,w];simp[t]
  obtain⟨b,D,y,z,A,C⟩:=wQ (B:=QD l f) l p (fun i j r x v H hx hl=>by
    have F:=(Yb.1 hl).1
    have o:(j:Int)<(l.length:Int):=by omega
    have q:=g x (Yj hl)
    have E: -9223372036854775808≤(i:Int)+1∧(i:Int)+1<9223372036854775808:=by omega
    have w2: -9223372036854775808≤(j:Int)+1∧(j:Int)+1<9223372036854775808:=by omega
    have c:(0:Int)≤(j:Int):=by omega
    have d:(0:Int)≤(i:Int):=by omega
    have m:(i:Int)<(l.length:Int):=by omega
    have n:i<r.length:=by omega
    dsimp only[QD,XK,al,Fp,D0,br,ix,Cj,vz,vy,vw,vs,vg,v2,lr,At,ln,Af,lc,lf,Ei,ap,aq,a0,a1,ad,cl,cs,cf,wa,wi,ir,ca,cp,dd,mv,st,ss,sL,Bd.c,Bd.vl,sR,AA,NB,NC,Nz,ND,rb,cr,J3,ch]
    simp only[BO,AA,o,q,E,w2,c,d,m,n,hx,Cm,Od,HM,Yp,Yt,YP,Ya]
    cases p x<;>simp)
   (fun i r=>by
    dsimp only[QD,XK,al,Fp,D0,br,ix,Cj,vz,vy,vw,vs,vg,v2,lr,At,ln,Af,lc,lf,Ei,ap,aq,a0,a1,ad,cl,cs,cf,wa,wi,ir,ca,cp,dd,mv,st,ss,sL,Bd.c,Bd.vl,sR,AA,NB,NC,Nz,ND,rb,cr,J3,ch]
    simp)
   (l.length-(i+1)) Ah i (i+1) l (by omega) (AP (by omega)) (by omega) rfl e.symm (by rw[e,Yy];omega) rfl
  rw[show((i:Int)+1)=((i+1:Nat):Int)from rfl]at k⊢
  simp only[a,k,y,YW,Yp,Yo,Cm,Yt,YQ,Ya,CE]
  have c:b≤l.length:=by rw[A];exact LS _ _
  have d:(b:Int)=((D.take b).length:Int):=by rw[Yy];omega
  simp[po,z,C,al,Fp,D0,br,ix,Cj,vz,vy,vw,vs,vg,v2,lr,At,ln,Af,lc,lf,Ei,ap,aq,a0,a1,ad,cl,cs,cf,wa,wi,ir,ca,cp,dd,mv,st,ss,sL,Bd.c,Bd.vl,sR,AA,NB,NC,Nz,ND,rb,cr,J3,ch]
  omega
theorem m58(l:List Fld)(h:l.length<549755813888):Ta l=some l:=by
 unfold Ta
 simp only[ko,al,Fp,D0,br,ix,Cj,vz,vy,vw,vs,vg,v2,lr,At,ln,Af,lc,lf,Ei,ap,aq,a0,a1,ad,cl,cs,cf,wa,wi,ir,ca,cp,dd,mv,st,ss,sL,Bd.c,Bd.vl,sR,AA,Yo,YQ,h,Yt]
theorem ZUr(l:List Fld)(f:Fld→Option Bool)(p:Fld→Bool)(d:∀x∈l,f x=some (p x))(h:l.length<4611686018427387904):S3 l f=some (CU l p):=by
 unfold S3
 simp only[TD,TF,TS,TY,al,Fp,D0,br,ix,Cj,vz,vy,vw,vs,vg,v2,lr,At,ln,Af,lc,lf,Ei,ap,aq,a0,a1,ad,cl,cs,cf,wa,wi,ir,ca,cp,dd,mv,st,ss,sL,Bd.c,Bd.vl,sR,AA]
 rw[Et l p (fun i=>(i:Int)) () (hN:=AP h) (he:=by simp[TG,TD,TF,TS,TY,al,Fp,D0,br,ix,Cj,vz,vy,vw,vs,vg,v2,lr,At,ln,Af,lc,lf,Ei,ap,aq,a0,a1,ad,cl,cs,cf,wa,wi,ir,ca,cp,dd,mv,st,ss,sL,Bd.c,Bd.vl,sR,AA]) (hs:=by
  intro i y hy
  obtain⟨a,rfl⟩:=Yb.1 hy
  have b:i+1<9223372036854775808:=by omega
  have c:=d l[i] (Yj hy)
  simp[TG,TD,TF,TS,TY,al,Fp,D0,br,ix,Cj,vz,vy,vw,vs,vg,v2,lr,At,ln,Af,lc,lf,Ei,ap,aq,a0,a1,ad,cl,cs,cf,wa,wi,ir,ca,cp,dd,mv,st,ss,sL,Bd.c,Bd.vl,sR,AA,a,b,c]
  cases p l[i]<;>rfl)]
 unfold CU
 cases l.findIdx? _<;>rfl
theorem m57(l:List Fld)(f:Fld→Option Bool)(p:Fld→Bool)(g:∀x∈l,f x=some (p x))(h:l.length<549755813888):S0 l f=some (l.filter fun x=>!p x):=by
 have e0:=ZUr l f p g (by omega)
 unfold S0
 dsimp only[ld,nS,vw,vs,vg,vz,cs,br,lr,lf,lc,wi]
 rw[e0,Ya]
 cases hi:l.findIdx? p with
 |none=>
  rw[show CU l p= -1 from by unfold CU;rw[hi]]
  rw[show l.filter (fun x=>!p x)=l from RC.2 fun x hx=>by rw[LP.1 hi x hx];rfl]
  rfl
 |some i=>
  obtain⟨s,t,u⟩:=Kg.1 hi
  rw[show CU l p=(i:Int)from by unfold CU;rw[hi]]
  have a:((i:Int)= -1)=False:=eq_false (by omega)
  have k: -9223372036854775808≤(i:Int)+1∧(i:Int)+1<9223372036854775808:=by omega
  have w:(l.take i).filter (fun x=>!p x)=l.take i:=RC.2 fun x hx=>by
   obtain⟨j,G,rfl⟩:=Xk.1 hx
   rw[W4.2 (u j (by omega))];rfl
  have e:(l.take (i+1)).filter (fun x=>!p x)=l.take i:=by rw[Y8 s,HF,w];simp[t]
  obtain⟨b,D,y,z,A,C⟩:=wQ (B:=Qa l f) l p (fun i j r x v H hx hl=>by
    have F:=(Yb.1 hl).1
    have o:(j:Int)<(l.length:Int):=by omega
    have q:=g x (Yj hl)
    have E: -9223372036854775808≤(i:Int)+1∧(i:Int)+1<9223372036854775808:=by omega
    have w2: -9223372036854775808≤(j:Int)+1∧(j:Int)+1<9223372036854775808:=by omega
    have c:(0:Int)≤(j:Int):=by omega
    have d:(0:Int)≤(i:Int):=by omega
    have m:(i:Int)<(l.length:Int):=by omega
    have n:i<r.length:=by omega
    dsimp only[Qa,gA,al,Fp,D0,br,ix,Cj,vz,vy,vw,vs,vg,v2,lr,At,ln,Af,lc,lf,Ei,ap,aq,a0,a1,ad,cl,cs,cf,wa,wi,ir,ca,cp,dd,mv,st,ss,sL,Bd.c,Bd.vl,sR,AA,NB,NC,Nz,ND,rb,cr,J3,ch]
    simp only[BO,AA,o,q,E,w2,c,d,m,n,hx,Cm,Od,HM,Yp,Yt,YP,Ya]
    cases p x<;>simp)
   (fun i r=>by
    dsimp only[Qa,gA,al,Fp,D0,br,ix,Cj,vz,vy,vw,vs,vg,v2,lr,At,ln,Af,lc,lf,Ei,ap,aq,a0,a1,ad,cl,cs,cf,wa,wi,ir,ca,cp,dd,mv,st,ss,sL,Bd.c,Bd.vl,sR,AA,NB,NC,Nz,ND,rb,cr,J3,ch]
    simp)
   (l.length-(i+1)) Ah i (i+1) l (by omega) (AP (by omega)) (by omega) rfl e.symm (by rw[e,Yy];omega) rfl
  rw[show((i:Int)+1)=((i+1:Nat):Int)from rfl]at k⊢
  simp only[a,k,y,YW,Yp,Yo,Cm,Yt,YQ,Ya,CE]
  have c:b≤l.length:=by rw[A];exact LS _ _
  have d:(b:Int)=((D.take b).length:Int):=by rw[Yy];omega
  simp[kh,z,C,al,Fp,D0,br,ix,Cj,vz,vy,vw,vs,vg,v2,lr,At,ln,Af,lc,lf,Ei,ap,aq,a0,a1,ad,cl,cs,cf,wa,wi,ir,ca,cp,dd,mv,st,ss,sL,Bd.c,Bd.vl,sR,AA,NB,NC,Nz,ND,rb,cr,J3,ch]
  omega
theorem m29(m:Msg)(u:ByteArray)(h:m.fields.length≤1048576)(a:u≠⟨#[]⟩):Tl m u=some (m.fields.filter fun f=>decide (f.union=u)):=by
 dsimp only[Tl,sG,uL,uT,v8,vi,br,vz,wg,lr,lc,fl,fr,br]
 rw[m58 _ (by omega),Ya,m57 _ (fun z=>S6 z u) (fun f=>!decide (f.union=u)) (fun x _=>rfl) (by omega)]
 simp[a]
theorem ZXx(m:Msg):Tl m ⟨#[]⟩=some []:=rfl
theorem eW{v:Val}(h:SzV v):cU v=some (Cg v):=by
 obtain⟨t1,t2,t3,t4,t5⟩:=h
 have e:v.list.length<4611686018427387904:=by omega
 have f:v.pairs.length<4611686018427387904:=by omega
 have g:v.slots.length<4611686018427387904:=by omega
 have i:v.raws.length<4611686018427387904:=by omega
 have key:∀a b c:Bool,(if a=true then some true else if b=true then some true else some c)=some (a||b||c):=fun a b c=>by cases a<;>cases b<;>rfl
 dsimp only[cU,kw,br,vz,vy,wg,lr,Aj,br]
 rw[key]
 congr 1
 unfold Cg
 rw[Xs]
 by_cases d:v.text=⟨#[]⟩<;>simp only[d,Yp,YW,YH,Yc,YK,YB,YT,Y7,CP,Er,Es,ne_eq,N4,LK,Oc,HM,Xl,Yo,or_false,false_or,Ke]<;>omega
theorem nF{v:Val}(h:SzV v):O0 v=some (Mc v):=by
 obtain⟨t1,t2,t3,t4,t5⟩:=h
 have a:v.list.length<4611686018427387904:=by omega
 have b:v.pairs.length<4611686018427387904:=by omega
 have c:v.slots.length<4611686018427387904:=by omega
 have d:v.raws.length<4611686018427387904:=by omega
 dsimp only[O0,gP,vz,vy,wg,lr,Aj]
 congr 1
 unfold Mc
 rw[Xs]
 simp only[Yc,YB]
 omega
theorem ZLM(n:Int):Mr n=some (OC n):=by
 dsimp only[Mr,Ur,lr]
 unfold OC
 rw[Bool.decide_or]
theorem ZOR(n b:Int)(h:1≤n∧n≤9)(d:OC n=false):(if decide (n=1)=true then some (decide (b≤1))else if decide (n=2)=true then some (decide (-2147483648≤IntKind.i64.wrap b)&&decide (IntKind.i64.wrap b≤2147483647))else if decide (n=4)=true then some (decide (b<4294967296))else if decide (n=9)=true then some (decide (b<2147483648))else some true)=some (Si n b):=by
 unfold Si
 have a:decide (b<4294967296)=decide (b≤4294967295):=decide_eq_decide.2 (by omega)
 have c:decide (b<2147483648)=decide (b≤2147483647):=decide_eq_decide.2 (by omega)
 rw[a,c]
 simp only[YB,Xu]
 repeat' (first|rfl|split)
theorem ZO6(n:Int){v:Val}(h:SzV v):Jp n v=some (I9 n v):=by
 have f:=h.t
 have j:v.text.size<4611686018427387904:=by omega
 have g:Mx n=some (decide (1≤n)&&decide (n≤9)):=rfl
 have k:∀x y z:Bool,(if((x&&y)&&!z)=true then True else True)=True:=fun x y z=>by split<;>rfl
 dsimp only[Jp,U0,br,vz,vy,wg,lr,cl,AH,Bp,br]
 rw[g,nF h,ZLM,Zsb _ f,Ya]
 unfold I9
 by_cases c:1≤n∧n≤9∧v.kind=n
 ·obtain⟨a,b,d⟩:=c
  simp only[a,b,d,Cm,Yp,NX,Y7,RK,Kh,CP,RJ,FA,YM,Yt,Ya,D4,j,Es]
  cases hl:Mc v with
  |false=>rfl
  |true=>
   cases i:OC n with
   |true=>
    simp only[Y7,Yo,YQ,Yt,Es]
    rw[Xu]
    congr 3
    exact decide_eq_decide.2 (by omega)
   |false=>
    simp only[Y7,Yo,YQ,Es]
    by_cases hx:v.text=⟨#[]⟩
    ·simp only[hx,Yp,Y7,Yo,YQ,Es]
     exact ZOR n v.bits ⟨a,b⟩ i
    ·simp only[hx,YW,CP,Yt,Er]
 ·have e:((!(decide (1≤n)&&decide (n≤9)))||!decide (v.kind=n))=true:=by
   simp only[YH,YK,Kc,YT]
   omega
  simp only[e,c,YW,Er,Y7,Yo,NY,Yt,N1]
theorem vq(n:Int){v:Val}(h:SzV v):cP n v=some (DX n v):=by
 have f:=h.t
 have d:v.text.size<4611686018427387904:=by omega
 dsimp only[cP,mA,br,vz,wg,lr,cl,AH,Bp,br]
 rw[eW h,ZO6 n h,Ya]
 unfold DX
 by_cases c:v.kind=n
 ·cases g:Cg v with
  |true=>simp[c]
  |false=>
   by_cases b:4096<v.text.size
   ·have a:(4096:Int)<v.text.size:=by omega
    simp[c,d,b,a]
   ·have a:¬(4096:Int)<v.text.size:=by omega
    cases I9 n v with
    |true=>simp[c,d,b,a]
    |false=>
     by_cases e:n=7
     ·simp[c,d,b,a,e]
     ·simp[c,d,b,a,e]
 ·simp[c]
theorem m8(s:Scm)(n:ByteArray)(h:s.enums.length≤1048576):cF s n=some (De s n):=by
 have d:=Et (B:=PL s n) (N:=Ah) s.enums (fun e=>decide (e.name=n)) (fun i=>(s.enums.getD i default,true)) () (fun i x hx=>by
  have a:=Bs hx
  have f:=(Yb.1 hx).1
  have b:i+1<9223372036854775808:=by omega
  have c:s.enums.length<4611686018427387904:=by omega
  dsimp only[PL,fT,br,ix,vz,wg,vs,At,ln,Af,wa,Aj,br]
  simp only[a,b,c,hx,Yp,Yt,Ya,Yg,YM]
  cases decide (x.name=n)<;>simp) (by simp[PL,fT,br,ix,vz,wg,vs,At,ln,Af,wa,Aj,br]) (AP (by omega))
 dsimp only[cF,mz,mr,lx,wg,lr,lc]
 unfold De
 rw[d,PF]
 cases s.enums.findIdx? fun m=>decide (m.name=n)<;>rfl
theorem Zqp{s:Scm}(h:SzS s)(n:ByteArray):(De s n).1.items.length≤1048576:=by
 unfold De C3
 cases e:s.enums.find? fun m=>decide (m.name=n)with
 |none=>decide
 |some m=>exact(h.e m (HI e)).il
theorem ZuR{s:Scm}(hs:An (Al s)≤1048576)(n:ByteArray):∀x∈(De s n).1.items,-9223372036854775808≤x.num:=by
 unfold De C3
 cases e:s.enums.find? fun m=>decide (m.name=n)with
 |none=>intro x hx;cases hx
 |some m=>
  intro x hx
  have a:=Cu (e:=Cr) (HI e)
  have b:=Cu (e:=FY) (show x∈m.items from hx)
  simp only[Al,An,bk]at hs
  simp only[Cr,An,bk]at a
  simp only[FY,An,bk]at b
  have:=uE (k:=.i64) (n:=x.num) (by omega)
  exact this.1
theorem nm(e:Enm)(b:Int)(h:e.items.length≤1048576)(k:∀x∈e.items,-9223372036854775808≤x.num)(p:b<9223372036854775808):O3 e b=some (Lt e b):=by
 have j:e.items.length<4611686018427387904:=by omega
 have m:=Et (B:=P7 e b) (N:=Ah) e.items (fun x=>decide (IntKind.u64.wrap x.num=b)) (fun _=>true) () (fun i x hx=>by
  have a:=Bs hx
  have n:=(Yb.1 hx).1
  have d:i+1<9223372036854775808:=by omega
  have o:=k x (Yj hx)
  have f:e.items.getD (i:Int).toNat Rw.z=x:=by rw[YP,Yg,hx];rfl
  have g:(0:Int)≤i∧(i:Int)<e.items.length:=⟨by omega,a⟩
  have key:(decide ((0:Int)≤x.num)&&decide (IntKind.u64.wrap x.num=b))=decide (IntKind.u64.wrap x.num=b):=by
   by_cases c:(0:Int)≤x.num
   ·rw[Yn c,Es]
   ·have l:IntKind.u64.wrap x.num=x.num%18446744073709551616:=rfl
    rw[Yr c,Er]
    symm
    rw[YT,l]
    omega
  dsimp only[P7,gk,br,ix,AR,vz,vy,wg,vs,At,ln,Af,wa,Aj,br]
  simp only[j,a,d,f,g,hx,Yp,Yt,Ya,Cm,D4,key]
  cases decide (IntKind.u64.wrap x.num=b)<;>simp) (by simp[P7,gk,br,ix,AR,vz,vy,wg,vs,At,ln,Af,wa,Aj,br]) (AP (by omega))
 dsimp only[O3,ZzS,nU,ns,lr,lc]
 unfold Lt
 rw[m,←NS]
 cases e.items.findIdx? fun x=>decide (IntKind.u64.wrap x.num=b)<;>rfl
theorem Pn{α ξ ρ:Type}{B:Nat→Option (Lv Nat ξ ρ)}{N:Nat}(l:List α)(p:α→Bool)(r:ρ)(e:ξ)
  (hs:∀i x,l[i]?=some x→B i=some (if p x=true then .rt r else .nx (i+1))) (he:B l.length=some (.ex e)) (hN:l.length<N):Ai B N 0=some (if l.any p=true then .inr r else .inl e):=by
 rw[Et l p (fun _=>r) e hs he hN,←NS]
 cases l.findIdx? p<;>rfl
theorem ZF2(v:Val)(k:Int)(h:v.slots.length≤1048576):cq v k=some (BM v.slots k):=by
 have c:v.slots.length<4611686018427387904:=by omega
 have d:=Et (B:=PU v k) (N:=Ah) v.slots (fun x=>decide (x.num=k)) (fun _=>true) () (fun i x hx=>by
  have a:=Bs hx
  have e:=(Yb.1 hx).1
  have b:i+1<9223372036854775808:=by omega
  dsimp only[PU,gG,br,ix,vz,wg,vs,At,ln,Af,wa,Aj,br]
  simp only[c,a,b,hx,Yp,Yt,Ya]
  cases decide (x.num=k)<;>simp) (by simp[PU,gG,br,ix,vz,wg,vs,At,ln,Af,wa,Aj,br]) (AP (by omega))
 dsimp only[cq,kb,kX,nD,lr,lc]
 unfold BM
 rw[d,←NS]
 cases v.slots.findIdx? fun x=>decide (x.num=k)<;>rfl
theorem ZDX{s:Scm}(hs:An (Al s)≤1048576)(m:Msg)(x:Raw)(hm:m.fields.length≤1048576)(hx:x.data.size≤1048576):cu s m x=some (KM s m.fields x):=by
 have h:=Ft hs
 have A:x.data.size<4611686018427387904:=by omega
 have o:=m8 s (AW m.fields x.num).type.name h.el
 have d:x.bits<2147483648→O3 (De s (AW m.fields x.num).type.name).1 x.bits=_:=fun y=>nm _ _ (Zqp h _) (ZuR hs _) (by omega)
 have w:(Bo m.fields x.num).1=AW m.fields x.num:=rfl
 dsimp only[cu,mh,eh,br,vy,wg,lr,cl,AH,Bp,br]
 rw[iL _ _ hm,Ya,w]
 unfold KM p6
 have j:((((((decide (x.num<1)||decide (65535<x.num))||decide (x.wire<0))||decide (6<x.wire))||(((decide (x.wire=0)||decide (x.wire=1))||decide (x.wire=2))&&!decide (x.data=⟨#[]⟩)))||((!((decide (x.wire=0)||decide (x.wire=1))||decide (x.wire=2)))&&!decide (x.bits=0)))=true)=(x.num<1∨65535<x.num∨x.wire<0∨6<x.wire∨(x.wire≤2∧x.data≠⟨#[]⟩)∨(2<x.wire∧x.bits≠0)):=by
  by_cases p:x.data=⟨#[]⟩<;>simp only[p,Yp,YW,Y7,CP,Ka,NW,Xl,YH,Yc,YK,YB,YT,Ke,ne_eq,N4,LK,and_false,Od,false_or,eq_iff_iff]<;>omega
 have b:(if((decide (x.wire=3)&&decide ((4096:Int)<x.data.size))||decide ((65536:Int)<x.data.size))=true then some (3:Int)else some 0)=some (if(x.wire=3∧4096<x.data.size)∨65536<x.data.size then 3 else 0):=by
  by_cases c:(x.wire=3∧4096<x.data.size)∨65536<x.data.size
  ·rw[Yi c,Yi]
   simp only[YH,Yc,YB]
   omega
  ·rw[Ym c,Ym]
   simp only[YH,Yc,YB]
   omega
 by_cases c:x.num<1∨65535<x.num∨x.wire<0∨6<x.wire∨(x.wire≤2∧x.data≠⟨#[]⟩)∨(2<x.wire∧x.bits≠0)
 ·rw[Yi c,Yi (j▸c)]
 ·rw[Ym c,Ym (j▸c)]
  cases z:(Bo m.fields x.num).2 with
  |false=>
   simp only[Yo,YQ,Oc]
   exact b
  |true=>
   simp only[Yt,HM]
   rw[o,Ya]
   generalize (De s (AW m.fields x.num).type.name)=a at d⊢
   generalize AW m.fields x.num=f at d⊢
   by_cases k:f.type.kind=9∧a.2=true∧a.1.opn=false∧¬f.card=5∧x.wire=0∧x.bits<2147483648
   ·obtain⟨q,r,t,u,l,n⟩:=k
    have i:¬(2147483648≤x.bits):=by omega
    simp only[q,r,t,u,l,n,i,d n,Yp,YW,Y7,CP,RK,Kh,RJ,FA,YM,Yt,NX,Es]
    cases Lt a.1 x.bits with
    |true=>simp only[Yt,Y7]
    |false=>
     simp only[Yo,YQ,CP,reduceCtorEq]
     rw[l]at b
     simpa using b
   ·have i:((((((!decide (f.type.kind=9))||(!a.2))||a.1.opn)||decide (f.card=5))||(!decide (x.wire=0)))||decide (2147483648≤x.bits))=true:=by
     simp only[YH,YK,YB,YT]
     cases e:a.2<;>cases g:a.1.opn<;>simp only[e,g,HM,Od,Oc,and_false,reduceCtorEq,LK,true_or,or_true,false_or,or_false]at k⊢<;>omega
    have v:(decide (f.type.kind=9)&&a.2&&!a.1.opn&&!decide (f.card=5)&&decide (x.wire=0)&&decide (x.bits<2147483648)&&!Lt a.1 x.bits)=false:=by
     rw[Kc]
     left
     cases e:a.2<;>cases g:a.1.opn<;>simp only[e,g,Ka,Er,Y7,CP,NW]at k⊢
     simp only[Kc,Xh,YT,YB]
     simp only[HM]at k
     omega
    simp only[i,v,Y7,Yo,NY,Yt,N1]
theorem ZvT(R:V7)(l:Fld→Val→Int)(s:Scm)(m:Msg)(v:Val)(i:Nat)(x:Slt)(a:Int)(k:Bool)(hm:m.fields.length≤1048576)(hl:v.slots.length≤1048576)(hx:v.slots[i]?=some x)(F:1≤a∧a≤16)(t:∀f:Fld,(Bo m.fields x.num)=(f,true)→R s f x.val (a+1) k=some (l f x.val)):SS R s m v i a k=some (F2 l m.fields v.slots i x):=by
 have hi:=(Yb.1 hx).1
 have c:(v.slots.take i).length=i:=by rw[Yy];omega
 have b:∀(j:Nat) (y:Slt),(v.slots.take i)[j]?=some y→j<i∧v.slots[j]?=some y:=fun j y hy=>by
  rw[Y2]at hy
  split at hy
  ·exact⟨by assumption,hy⟩
  ·cases hy
 have A:∀y:Fld×Bool,Ai (MX s m v i a k R y) Ah 0=some (if BM (v.slots.take i) y.1.num=true then .inr 9 else .inl ()):=fun y=>by
  have q:=Pn (B:=MX s m v i a k R y) (N:=Ah) (v.slots.take i) (fun z=>decide (z.num=y.1.num)) (9:Int) () (fun j z h=>by
   obtain⟨p,d⟩:=b j z h
   have e:(j:Int)<i:=by omega
   have g:j+1<9223372036854775808:=by omega
   dsimp only[MX,gS,br,ix,wg,vs,At,ln,Af,wa,br]
   simp only[d,e,g,Yp,Yt,Ya]
   cases decide (z.num=y.1.num)<;>simp) (by rw[c];dsimp only[MX,gS,br,ix,wg,vs,At,ln,Af,wa,br];simp) (by rw[c];exact AP (by omega))
  exact q
 have C:∀y:Fld×Bool,Ai (M1 s m v i a k R y) Ah 0=some (if Kw m.fields (v.slots.take i) y.1.union=true then .inr 15 else .inl ()):=fun y=>by
  have q:=Pn (B:=M1 s m v i a k R y) (N:=Ah) (v.slots.take i) (fun z=>(!decide (y.1.union=⟨#[]⟩))&&decide ((AW m.fields z.num).union=y.1.union)) (15:Int) () (fun j z h=>by
   obtain⟨p,d⟩:=b j z h
   have e:(j:Int)<i:=by omega
   have g:j+1<9223372036854775808:=by omega
   have r:(Bo m.fields z.num).1=AW m.fields z.num:=rfl
   dsimp only[M1,hX,U1,gq,hJ,br,ix,wg,vs,At,ln,Af,lc,cl,wa,du,br]
   simp only[d,e,g,iL _ _ hm,r,Yp,Yt,Ya]
   cases(!decide (y.1.union=⟨#[]⟩))&&decide ((AW m.fields z.num).union=y.1.union)<;>simp) (by rw[c];dsimp only[M1,hX,U1,gq,hJ,br,ix,wg,vs,At,ln,Af,lc,cl,wa,du,br];simp) (by rw[c];exact AP (by omega))
  rw[q]
  congr 2
  unfold Kw
  by_cases o:y.1.union=⟨#[]⟩
  ·simp only[o,Yp,Y7,Er,eq_iff_iff,Yo,iff_false,YR,not_exists,and_false,LK,D4]
  ·simp only[o,YW,CP,Es]
 have w0:(0:Int)≤i∧(i:Int)<v.slots.length:=by omega
 have D:(Bo m.fields x.num).1=AW m.fields x.num:=rfl
 have w2: -9223372036854775808≤a+1∧a+1<9223372036854775808:=by omega
 have E:(v.slots.getD i Rw.z)=x:=by rw[Yg,hx];rfl
 unfold F2
 dsimp only[SS,ZrG,eI,m5,j8,mN,kL,br,Cj,vw,wg,vs,lr,lc,cl,cs,wi,du,br]
 simp only[YP,hx,w0,E,Cm,Yt,iL _ _ hm,Ya,A,C,D,w2]
 cases n:(Bo m.fields x.num).2 with
 |false=>simp
 |true=>
  have u:(AW m.fields x.num).num=x.num:=TT n
  have w:=t (AW m.fields x.num) (Prod.ext rfl n)
  rw[u]
  cases BM (v.slots.take i) x.num with
  |true=>simp
  |false=>
   cases Kw m.fields (v.slots.take i) (AW m.fields x.num).union with
   |true=>simp
   |false=>simp[w]
theorem Zr9(R:V7){s:Scm}(hs:An (Al s)≤1048576)(m:Msg)(v:Val)(d:Nat)(K:d≤16)(k:Bool)(hm:m.fields.length≤1048576)(o:AO v)(D:∀d':Nat,d=d'+1→∀(f:Fld) (x:Val),AO x→R s f x (17-(d':Int)) k=some (BR (A0 s k d') s k f x)):OW R s m v (17-(d:Int)) k=some (A0 s k d m v):=by
 have h:=Ft hs
 have F:=CN o
 obtain⟨s1,s2,L,t,M⟩:=CN o
 have u:m.fields.length<4611686018427387904:=by omega
 have w:v.slots.length<4611686018427387904:=by omega
 have y:v.raws.length<4611686018427387904:=by omega
 dsimp only[OW,n5,oL,pl,ui,sH,br,wg,lr,lc,AH,br]
 rw[eW F]
 by_cases c:v.kind≠10∨Cg v=true
 ·have z:A0 s k d m v=12:=by cases d<;>(unfold A0;rw[Yi c])
  rw[z]
  by_cases a:v.kind=10
  ·have n:Cg v=true:=c.resolve_left fun e=>e a
   simp[a,n]
  ·simp[a]
 ·have a:v.kind=10:=Decidable.not_not.1 fun e=>c (.inl e)
  have n:Cg v=false:=by
   cases h:Cg v with
   |false=>rfl
   |true=>exact absurd (.inr h) c
  cases d with
  |zero=>
   unfold A0
   rw[Ym c]
   simp[a,n]
  |succ d=>
   have G:(1:Int)≤17-((d+1:Nat):Int)∧17-((d+1:Nat):Int)≤16:=by omega
   have q:¬(16:Int)<17-((d+1:Nat):Int):=by omega
   have H:=Ps (B:=QF s m v (17-((d+1:Nat):Int)) k R) (N:=Ah) v.slots (F2 (BR (A0 s k d) s k) m.fields v.slots) id () (fun i x hx _=>by
    have e:=ZvT R (BR (A0 s k d) s k) s m v i x _ k hm t hx G fun f j=>by
     have:=D d rfl f x.val (If o (Yj hx))
     rw[show 17-((d+1:Nat):Int)+1=17-(d:Int)by omega]
     exact this
    have b:=Bs hx
    have g:i+1<9223372036854775808:=by have:=(Yb.1 hx).1;omega
    dsimp only[QF,XY,br,vz,wg,vs,v2,At,ln,Af,cs,wa,Aj,br]
    simp only[w,b,g,e,Yp,Yt,Ya]
    by_cases hy:F2 (BR (A0 s k d) s k) m.fields v.slots i x=0<;>simp[hy]) (by dsimp only[QF,XY,br,vz,wg,vs,v2,At,ln,Af,cs,wa,Aj,br];simp[w]) (AP (by omega))
   have I:=Ps (B:=Qm s m v R) (N:=Ah) m.fields (fun _ f=>II v.slots f) id () (fun i f j _=>by
    have b:=Bs j
    have g:i+1<9223372036854775808:=by have:=(Yb.1 j).1;omega
    have A:m.fields.getD i Rw.z=f:=by rw[Yg,j];rfl
    have C:(0:Int)≤i∧(i:Int)<m.fields.length:=⟨by omega,b⟩
    have e:=ZF2 v f.num t
    unfold II
    dsimp only[Qm,ZK,br,ix,AR,vz,wg,vs,At,ln,Af,AH,wa,Aj,br]
    simp only[u,b,g,A,C,j,e,YP,Yp,Yt,Ya,Cm,D4,FA,YM]
    by_cases E:f.card=1<;>cases BM v.slots f.num<;>simp[E]) (by dsimp only[Qm,ZK,br,ix,AR,vz,wg,vs,At,ln,Af,AH,wa,Aj,br];simp[u]) (AP (by omega))
   have J:=Ps (B:=QA s m v R) (N:=Ah) v.raws (fun _ x=>KM s m.fields x) id () (fun i x hx _=>by
    have b:=Bs hx
    have g:i+1<9223372036854775808:=by have:=(Yb.1 hx).1;omega
    have e:=ZDX hs m x hm (ZTU o (Yj hx))
    dsimp only[QA,Zn,br,ix,vz,wg,vs,At,ln,Af,cl,wa,Aj,br]
    simp only[y,b,g,hx,e,Yp,Yt,Ya]
    by_cases hy:KM s m.fields x=0<;>simp[hy]) (by dsimp only[QA,Zn,br,ix,vz,wg,vs,At,ln,Af,cl,wa,Aj,br];simp[y]) (AP (by omega))
   unfold A0
   rw[Ym c]
   simp only[a,n,q,H,I,J,Yp,YW,Y7,CP,RK,Yo,RJ,FA,YM,Yt,YQ,Ya]
   by_cases l:B1 (F2 (BR (A0 s k d) s k) m.fields v.slots) v.slots 0=0
   ·by_cases p:B1 (fun _ f=>II v.slots f) m.fields 0=0
    ·by_cases r:B1 (fun _ x=>KM s m.fields x) v.raws 0=0
     ·simp[l,p,r]
     ·simp[l,p,r]
    ·simp[l,p]
   ·simp[l]
theorem ZGf(R:V7){s:Scm}(hs:An (Al s)≤1048576)(t:Typ)(v:Val)(d:Nat)(q:d≤16)(k:Bool)(m:AO v)(p:∀d':Nat,d=d'+1→∀(f:Fld) (x:Val),AO x→R s f x (17-(d':Int)) k=some (BR (A0 s k d') s k f x)):Mp R s t v (17-(d:Int)) k=some (CL (A0 s k d) s t v):=by
 have h:=Ft hs
 have hm:=Zr9 R hs (AJ s t.name).1 v d q k (MP h _) m p
 have o:v.bits<9223372036854775808→O3 (De s t.name).1 v.bits=_:=fun i=>nm _ _ (Zqp h _) (ZuR hs _) i
 have n:KX s t.name=some (AJ s t.name):=WG s _ h.ml
 dsimp only[Mp,Zz1,br,wg,lr,cl,AH,cs,br]
 rw[n,vq _ (CN m),m8 s _ h.el]
 simp only[Ya]
 unfold CL
 by_cases c:t.kind=10
 ·simp only[c,Yp,Yt,hm,Ya]
  cases(AJ s t.name).2<;>simp
 ·by_cases e:t.kind<1∨9<t.kind
  ·have g:(decide (t.kind<1)||decide (9<t.kind))=true:=by simpa using e
   simp only[c,e,g,YW,Yo,YQ,Yt]
  ·have g:(decide (t.kind<1)||decide (9<t.kind))=false:=by
    rw[Ke,YT,YT]
    omega
   simp only[c,e,g,YW,Yo,YQ]
   by_cases a:DX t.kind v=0∧t.kind=9
   ·obtain⟨a,b⟩:=a
    have i:v.bits<9223372036854775808:=by
     rw[b]at a
     unfold DX at a
     by_cases a1:v.kind≠9∨Cg v=true
     ·rw[Yi a1]at a;cases a
     ·rw[Ym a1]at a
      by_cases j:4096<v.text.size
      ·rw[Yi j]at a;cases a
      ·rw[Ym j]at a
       cases a3:I9 9 v with
       |false=>rw[a3]at a;simp at a
       |true=>
        unfold I9 at a3
        simp only[Yc]at a3
        have a4:=a3.2
        rw[Ym (by decide)]at a4
        simp only[Yc]at a4
        have l:=a4.2
        unfold Si at l
        rw[Ym (by decide),Ym (by decide),Ym (by decide),Yi rfl,YB]at l
        omega
    rw[o i,a,b]
    cases(De s t.name).2<;>cases(De s t.name).1.opn<;>cases Lt (De s t.name).1 v.bits<;>simp
   ·have b:((!decide (DX t.kind v=0))||!decide (t.kind=9))=true:=by
     simp only[YH,YK,YT]
     omega
    rw[Yi b,Yi (by omega)]
theorem ZHy(R:V7){s:Scm}(hs:An (Al s)≤1048576)(f:Fld)(v:Val)(d:Nat)(S:d≤16)(k:Bool)(t:AO v)(Q:∀d':Nat,d=d'+1→∀(f:Fld) (x:Val),AO x→R s f x (17-(d':Int)) k=some (BR (A0 s k d') s k f x)):Wd R s f v (17-(d:Int)) k=some (BR (A0 s k d) s k f v):=by
 have h:=Ft hs
 have l:=CN t
 obtain⟨s1,s2,Y,Z,s5⟩:=CN t
 have G:v.list.length<4611686018427387904:=by omega
 have w2:v.pairs.length<4611686018427387904:=by omega
 have y:=fun(x:Val) (hx:AO x)=>ZGf R hs f.type x d S k hx Q
 generalize 17-(d:Int)=A at y
 have U:=Ps (B:=PV s f v A k R) (N:=Ah) v.list (fun _ x=>CL (A0 s k d) s f.type x) id () (fun i x hx _=>by
  have w:=Bs hx
  have g:i+1<9223372036854775808:=by have:=(Yb.1 hx).1;omega
  have e:=y x (Qy t (Yj hx))
  dsimp only[PV,fL,br,ix,vz,wg,vs,v2,At,ln,Af,cs,wa,Aj,br]
  simp only[G,w,g,hx,e,Yp,Yt,Ya]
  by_cases hy:CL (A0 s k d) s f.type x=0<;>simp[hy]) (by dsimp only[PV,fL,br,ix,vz,wg,vs,v2,At,ln,Af,cs,wa,Aj,br];simp[G]) (AP (by omega))
 have W:∀(i:Nat) (p:Pr),v.pairs[i]?=some p→Ai (Ld s f v A k R i) Ah 0=some (if k=true∧((v.pairs.take i).any fun q=>Iq q.key p.key)=true then .inr 9 else .inl ()):=fun i p c=>by
  have hi:=(Yb.1 c).1
  have F:(v.pairs.take i).length=i:=by rw[Yy];omega
  cases k with
  |false=>
   obtain⟨X,D⟩:∃b,Ah=b+1:=⟨Ah-1,by have:=AP (n:=20) (by omega);omega⟩
   rw[D,Ai]
   dsimp only[Ld,UU,br,ix,AR,wg,vs,At,ln,Af,wa,br]
   simp
  |true=>
   have q:=Pn (B:=Ld s f v A true R i) (N:=Ah) (v.pairs.take i) (fun q=>Iq q.key p.key) (9:Int) () (fun j z l=>by
    have T:j<i∧v.pairs[j]?=some z:=by
     rw[Y2]at l
     split at l
     ·exact⟨by assumption,l⟩
     ·cases l
    obtain⟨w,g⟩:=T
    have J:(j:Int)<i:=by omega
    have K:j+1<9223372036854775808:=by omega
    have L:v.pairs.getD j Rw.z=z:=by rw[Yg,g];rfl
    have M:v.pairs.getD i Rw.z=p:=by rw[Yg,c];rfl
    have O:(0:Int)≤j∧(j:Int)<v.pairs.length:=by omega
    have P:(0:Int)≤i∧(i:Int)<v.pairs.length:=by omega
    unfold Iq
    dsimp only[Ld,UU,br,ix,AR,wg,vs,At,ln,Af,wa,br]
    simp only[g,J,K,L,M,O,P,c,YP,Yp,NW,Yt,Ya,Cm,D4]
    cases decide (z.key.bits=p.key.bits)&&decide (z.key.text=p.key.text)<;>simp) (by rw[F];dsimp only[Ld,UU,br,ix,AR,wg,vs,At,ln,Af,wa,br];simp) (by rw[F];exact AP (by omega))
   rw[q]
   simp
 have V:=Ps (B:=Qc s f v A k R) (N:=Ah) v.pairs (Kl (CL (A0 s k d) s f.type) f.key k v.pairs) id () (fun i p c _=>by
  have w:=Bs c
  have g:i+1<9223372036854775808:=by have:=(Yb.1 c).1;omega
  have E:=EH t (Yj c)
  have H:=vq f.key (CN E.1)
  have I:=y p.val E.2
  unfold Kl
  dsimp only[Qc,fs,hZ,gt,ic,gQ,br,ix,vz,wg,vs,At,ln,Af,lc,cl,cs,wa,Aj,br]
  simp only[w2,w,g,c,H,I,W i p c,Yp,Yt,Ya]
  by_cases u:DX f.key p.key=0
  ·by_cases m:k=true∧((v.pairs.take i).any fun q=>Iq q.key p.key)=true
   ·simp[u,m]
   ·by_cases C:CL (A0 s k d) s f.type p.val=0
    ·rw[Ym m]
     simp only[u,m,C]
     simp
    ·rw[Ym m]
     simp only[u,m,C]
     simp[C]
  ·simp[u]) (by dsimp only[Qc,fs,hZ,gt,ic,gQ,br,ix,vz,wg,vs,At,ln,Af,lc,cl,cs,wa,Aj,br];simp[w2]) (AP (by omega))
 have e0:=y v t
 unfold BR
 dsimp only[Wd,ZtD,ZuL,ZrC,Zz3,ZsI,kq,Ztw,ZrJ,Zz6,Zsa,Ztd,Zte,br,wg,lr,lc,AH,cs,br]
 rw[eW l,U,V,e0]
 by_cases o:f.card=4
 ·by_cases a:v.kind=11
  ·cases Cg v with
   |true=>simp[o,a]
   |false=>
    by_cases c6:B1 (fun _ x=>CL (A0 s k d) s f.type x) v.list 0=0
    ·simp[o,a,c6]
    ·simp[o,a,c6]
  ·simp[o,a]
 ·by_cases r:f.card=5
  ·by_cases a:v.kind=12
   ·cases Cg v with
    |true=>simp[r,a]
    |false=>
     by_cases c6:B1 (Kl (CL (A0 s k d) s f.type) f.key k v.pairs) v.pairs 0=0
     ·simp[r,a,c6]
     ·simp[r,a,c6]
   ·simp[r,a]
  ·simp[o,r]
theorem z2{s:Scm}(hs:An (Al s)≤1048576)(k:Bool):∀(a d:Nat),d<a→d≤16→∀(f:Fld) (v:Val),AO v→Jr a s f v (17-(d:Int)) k=some (BR (A0 s k d) s k f v)
 |0,d,b,_,_,_,_=>absurd b (Y6 _)
 |a+1,d,b,c,f,v,h=>ZHy (Jr a) hs f v d c k h fun d' e g x hx=>z2 hs k a d' (by omega) (by omega) g x hx
theorem sf:20<Ah:=AP (by omega)
theorem Zys{s:Scm}(hs:An (Al s)≤1048576)(m:Msg)(v:Val)(k:Bool)(hm:m.fields.length≤1048576)(a:AO v):OW (Jr Ah) s m v 1 k=some (A0 s k 16 m v):=
 Zr9 (Jr Ah) hs m v 16 (Yf _) k hm a fun d' e f x hx=>z2 hs k Ah d' (by have:=sf;omega) (by omega) f x hx
end Go.Proofs.YtbcmdieedjamgaaGreat
